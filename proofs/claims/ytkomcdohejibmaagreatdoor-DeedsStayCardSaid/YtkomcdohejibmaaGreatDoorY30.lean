/- slices.Concat at deeds. Own work of this seat. -/
import Derived.Test.YtkomcdohejibmaaGreatDoorY29
import Derived.Test.YtkomcdohejibmaaGreatDoorY28
import Derived.Test.YtkomcdohejibmaaGreatDoorY22
set_option maxRecDepth 100000
set_option linter.unusedSimpArgs false
set_option linter.unusedVariables false
namespace Go.Proofs.YtkomcdohejibmaaGreatDoor
open Go Go.Av Go.RowKit

theorem grow_ct (n : Nat) (hn : 0 < n) (hl : n < 1000000) (r : List Blk) :
    Ct Tryz.prog 98 [.raw (.slice none 0 0), .int .i64 n] r (fun v s => v = .sl r.length 0 0 n ∧ s = r ++ [.arr 7 (List.replicate n (optA none))]) := by
  have d1 : decide ((n : Int) < 0) = false := by simp
  have d2 : decide ((n : Int) > 0) = true := by simp; omega
  refine ct_intro Tryz.func98 rfl Tryz.ntmps98 hB98 (by simp) fun h ρ w => goB (N := 27) Tryz.ntmps98 300 ?_
  simp only [go_sem, d1, d2, Int.sub_zero, getD_end, set_end, List.length_replicate]
  repeat refine And.intro (by first | omega | rfl | (simp; omega) | (simp; done)) ?_
  exact aret [4] rfl ⟨by simp [resV, Av.get, Av.put], rfl⟩
theorem grow0_ct (r : List Blk) :
    Ct Tryz.prog 98 [.raw (.slice none 0 0), .int .i64 0] r (fun v s => v = .raw (.slice none 0 0) ∧ s = r) := by
  refine ct_intro Tryz.func98 rfl Tryz.ntmps98 hB98 (by simp) fun h ρ w => goB (N := 27) Tryz.ntmps98 300 ?_
  simp only [go_sem]
  repeat refine And.intro (by first | omega | rfl | (simp; omega)) ?_
  exact aret [4] rfl ⟨rfl, rfl⟩

theorem splice_a {n : Nat} {z : AV} {x y : List AV} (h : x.length + y.length = n) : splice' (splice' (List.replicate n z) 0 x) x.length y = x ++ y := by
  subst h
  simp [splice']

set_option maxHeartbeats 4000000 in
theorem concat_ct (a b : List De) (ha : a.length < 100000) (hb : b.length < 100000) (r : List Blk) :
    Ct Tryz.prog 43 [.fz 1 [.fz 7 (a.map deA), .fz 7 (b.map deA)]] r (fun v s => v = .sl r.length 0 (a ++ b).length (a ++ b).length ∧ s = r ++ [.arr 7 ((a ++ b).map deA)]) := by
  have t1 : decide ((0 : Int) + (a.length : Int) < 0) = false := decide_eq_false (by omega)
  have t2 : decide ((0 : Int) + (a.length : Int) + (b.length : Int) < 0) = false := decide_eq_false (by omega)
  have e0 : (0 : Int) + (a.length : Int) + (b.length : Int) = ((a.length + b.length : Nat) : Int) := by omega
  by_cases hn : 0 < a.length + b.length
  · have hg := grow_ct (a.length + b.length) hn (by omega) r
    refine ct_intro Tryz.func43 rfl Tryz.ntmps43 hB43 (by simp) fun h ρ w => goB (N := 36) Tryz.ntmps43 300 ?_
    simp only [go_sem]
    refine aenter (around ?_)
    refine goB (N := 36) Tryz.ntmps43 300 ?_
    simp only [go_sem, List.length_map, t1]
    repeat refine And.intro (by first | omega | rfl | (simp; omega)) ?_
    refine aagain (around ?_)
    refine goB (N := 36) Tryz.ntmps43 300 ?_
    simp only [go_sem, List.length_map, t2]
    repeat refine And.intro (by omega) ?_
    refine aagain (around ?_)
    refine goB (N := 36) Tryz.ntmps43 300 ?_
    simp only [go_sem, e0]
    refine acall (hg) (N := 36) Tryz.ntmps43 rfl ?_
    rintro _ _ ⟨rfl, rfl⟩
    refine goB (N := 36) Tryz.ntmps43 300 ?_
    simp only [go_sem]
    refine aenter (around ?_)
    have q1 : (0 == a.length + b.length) = false := by simp; omega
    have s1 := splice_a (n := a.length + b.length) (z := optA none) (x := a.map deA) (y := b.map deA) (by simp)
    have hz : optA none = .agg [.str [], .int .i64 0, .raw (.slice none 0 0), .int .i64 0, .str [], .str [], .str []] := rfl
    have l1 : (splice' (List.replicate (a.length + b.length) (optA none)) 0 (a.map deA)).length = a.length + b.length := by simp [splice'] <;> omega
    by_cases hb0 : b = []
    · subst hb0
      have l2 : splice' (List.replicate a.length (optA none)) 0 (a.map deA) = a.map deA := by simp [splice']
      simp only [List.length_nil, Nat.add_zero] at q1 l1 ⊢
      refine goB (N := 36) Tryz.ntmps43 300 ?_
      simp only [go_sem, q1, getD_end, set_end, List.length_map, List.length_replicate, l2, take_map]
      repeat refine And.intro (by first | omega | rfl | exact .inl rfl | exact .inl trivial | (simp; done) | (simp; omega)) ?_
      refine aagain (around ?_)
      refine goB (N := 36) Tryz.ntmps43 300 ?_
      simp only [go_sem, getD_end, set_end, List.length_map, List.length_replicate, l2]
      repeat refine And.intro (by first | omega | rfl | exact .inl rfl | exact .inl trivial | (simp; done) | (simp; omega)) ?_
      refine aagain (around ?_)
      refine goB (N := 36) Tryz.ntmps43 300 ?_
      simp only [go_sem]
      exact aret [2] rfl ⟨by simp [resV, Av.get, Av.put], by simp⟩
    · have hb1 : 0 < b.length := List.length_pos_iff.2 hb0
      have q2 : (0 + a.length == a.length + b.length) = false := by simp; omega
      have q3 : (a.length == a.length + b.length) = false := by simp; omega
      refine goB (N := 36) Tryz.ntmps43 300 ?_
      simp only [go_sem, q1, q2, q3, getD_end, set_end, List.length_map, List.length_replicate, l1]
      repeat refine And.intro (by first | omega | rfl | exact .inl rfl | exact .inl trivial | (simp; done) | (simp; omega)) ?_
      refine aagain (around ?_)
      refine goB (N := 36) Tryz.ntmps43 300 ?_
      simp only [go_sem, q1, q2, q3, getD_end, set_end, List.length_map, List.length_replicate, l1]
      repeat refine And.intro (by first | omega | rfl | exact .inl rfl | exact .inl trivial | (simp; done) | (simp; omega)) ?_
      refine aagain (around ?_)
      refine goB (N := 36) Tryz.ntmps43 300 ?_
      simp only [go_sem]
      refine aret [2] rfl ⟨by simp [resV, Av.get, Av.put], ?_⟩
      have : List.drop (a.length + b.length) (a.map deA ++ List.drop a.length (List.replicate (a.length + b.length) (optA none))) = [] := List.drop_eq_nil_of_le (by simp)
      rw [this, List.append_nil, List.take_left' (by simp), ← List.map_append]
  · obtain rfl : a = [] := List.eq_nil_of_length_eq_zero (by omega)
    obtain rfl : b = [] := List.eq_nil_of_length_eq_zero (by omega)
    have hg := grow0_ct r
    refine ct_intro Tryz.func43 rfl Tryz.ntmps43 hB43 (by simp) fun h ρ w => goB (N := 36) Tryz.ntmps43 300 ?_
    simp only [go_sem]
    refine aenter (around ?_)
    refine goB (N := 36) Tryz.ntmps43 300 ?_
    simp only [go_sem, List.map_nil, List.length_nil]
    repeat refine And.intro (by first | omega | rfl | (simp; omega)) ?_
    refine aagain (around ?_)
    refine goB (N := 36) Tryz.ntmps43 300 ?_
    simp only [go_sem, List.map_nil, List.length_nil]
    repeat refine And.intro (by first | omega | rfl | (simp; omega)) ?_
    refine aagain (around ?_)
    refine goB (N := 36) Tryz.ntmps43 300 ?_
    simp only [go_sem]
    refine acall (hg) (N := 36) Tryz.ntmps43 rfl ?_
    rintro _ _ ⟨rfl, rfl⟩
    refine goB (N := 36) Tryz.ntmps43 300 ?_
    simp only [go_sem]
    refine aenter (around ?_)
    refine goB (N := 36) Tryz.ntmps43 300 ?_
    simp only [go_sem, List.map_nil, List.length_nil, getD_end, set_end]
    repeat refine And.intro (by first | omega | rfl | exact .inl rfl | exact .inl trivial | (simp; done) | (simp; omega)) ?_
    refine aagain (around ?_)
    refine goB (N := 36) Tryz.ntmps43 300 ?_
    simp only [go_sem, List.map_nil, List.length_nil, getD_end, set_end]
    repeat refine And.intro (by first | omega | rfl | exact .inl rfl | exact .inl trivial | (simp; done) | (simp; omega)) ?_
    refine aagain (around ?_)
    refine goB (N := 36) Tryz.ntmps43 300 ?_
    simp only [go_sem]
    exact aret [2] rfl ⟨by simp [resV, Av.get, Av.put], by simp⟩
end Go.Proofs.YtkomcdohejibmaaGreatDoor
/- The reference's JoinOf. Own work of this seat. -/
set_option maxRecDepth 100000
set_option linter.unusedSimpArgs false
set_option linter.unusedVariables false
namespace Go.Proofs.YtkomcdohejibmaaGreatDoor
open Go Go.Av Go.RowKit

theorem mem_step {l : List De} {i : Nat} (h : i < l.length) (d : De) : d ∈ l.take (i + 1) ↔ d ∈ l.take i ∨ d = l[i] := by
  rw [List.take_succ_eq_append_getElem h, List.mem_append, List.mem_singleton]
end Go.Proofs.YtkomcdohejibmaaGreatDoor
/- CheckDeeds. Own work of this seat. -/
set_option maxRecDepth 100000
set_option linter.unusedSimpArgs false
set_option linter.unusedVariables false
namespace Go.Proofs.YtkomcdohejibmaaGreatDoor
open Go Go.Av Go.RowKit

theorem CkOk.no {l : List De} {i : Nat} {d : De} (hi : l[i]? = some d) (h : ¬ CkAt l i d) : ¬ CkOk l := fun c => h (c.at' i d hi)
set_option maxHeartbeats 8000000 in
theorem check_pc (l : List De) (hl : SzL l) : Pc Tryz.prog 30 [.fz 7 (l.map deA)] (fun r => ∃ n : Int, r = .int .i64 n ∧ (n = 0 ↔ CkOk l)) := by
  have hsz := hl.sz
  have hlen := hl.len
  by_cases hbig : l.length > 500
  · have d1 : decide ((l.length : Int) > 500) = true := by simp; omega
    refine pc_intro (ct_intro Tryz.func30 rfl Tryz.ntmps30 hB30 (by simp) fun h ρ w => goB (N := 86) Tryz.ntmps30 300 ?_)
    simp only [go_sem, d1, List.length_map]
    exact aret [2] rfl ⟨⟨2, rfl, ⟨fun h => absurd h (by decide), fun h => absurd h.len (by omega)⟩⟩, rfl⟩
  have d1 : decide ((l.length : Int) > 500) = false := by simp; omega
  refine pc_intro (ct_intro Tryz.func30 rfl Tryz.ntmps30 hB30 (by simp) fun h ρ w => goB (N := 86) Tryz.ntmps30 300 ?_)
  simp only [go_sem, d1, List.length_map]
  refine aloop (ι := Nat × List St) (fun y => l.length - y.1)
    (fun y => [(17, .int .i64 y.1), (16, .int .i64 l.length), (15, .fz 7 (l.map deA)), (3, .mp 0), (1, .pin 1 [.fz 7 (l.map deA)] 0 0)])
    (fun y => [.mp (thM y.2)]) (fun y => y.1 ≤ l.length ∧ ∀ s, s ∈ y.2 ↔ s ∈ (l.take y.1).map (·.st)) (0, []) ⟨by simp, by simp⟩ ?_ ?_
  · refine Shift.weakS ?_ rfl
    simp only [wk, go_sem, List.length_map]
  · rintro ⟨i, ks⟩ ⟨g1, g2⟩ J hJ
    simp only at g1 g2 hJ ⊢
    by_cases gi : i < l.length
    · have di : decide ((i : Int) < (l.length : Int)) = true := by simp; omega
      have hst := map_step l i gi
      have hlow : ∀ x : Blk, ([Blk.mp (thM ks), x].take 1).all (lowB 1) = true := fun x => by
        simp only [List.take_succ_cons, List.take_zero, List.all_cons, List.all_nil, low_thM, Bool.and_self]
      rcases thM_find l[i].st ks with ⟨m1, m2⟩ | ⟨q, m1, m2⟩
      · have hfin := hJ (i + 1, ks ++ [l[i].st]) ⟨by simp only; omega, fun s => by rw [hst, List.map_append, List.mem_append, List.mem_append, g2]; simp only [List.map_cons, List.map_nil]⟩ (by simp only; omega)
        simp only [stA] at m1
        rw [← thM_push] at hfin
        simp only [stA] at hfin
        refine goB (N := 86) Tryz.ntmps30 300 ?_
        simp only [go_sem, di, deA_get l i gi, List.length_map, m1]
        repeat refine And.intro (by first | omega | rfl | kernel_rfl | exact .inl rfl | exact .inl trivial | (simp; done) | (simp; omega)) ?_
        rw [show (i : Int) + 1 = ((i + 1 : Nat) : Int) by omega]
        refine ainv hfin (Shift.low 1 (by simp) (by simp) ?_ ?_)
        · have := low_thM 1 (ks ++ [l[i].st])
          rw [← thM_push] at this
          simp only [stA] at this
          simp only [List.take_succ_cons, List.take_zero, List.all_cons, List.all_nil, this, Bool.and_self]
        · simp only [wkl, lowV, lowC, Av.get, go_sem]
      · have m3 : l[i].st ∈ ks := List.mem_of_getElem? m2
        have hfin := hJ (i + 1, ks) ⟨by simp only; omega, fun s => by
          rw [hst, List.map_append, List.mem_append, ← g2]
          exact ⟨.inl, fun h => h.elim id fun h => by simp at h; rw [h]; exact m3⟩⟩ (by simp only; omega)
        have hset := thM_set ks _ _ m2
        simp only [stA] at m1 hset
        refine goB (N := 86) Tryz.ntmps30 300 ?_
        simp only [go_sem, di, deA_get l i gi, List.length_map, m1, hset]
        repeat refine And.intro (by first | omega | rfl | kernel_rfl | exact .inl rfl | exact .inl trivial | (simp; done) | (simp; omega)) ?_
        rw [show (i : Int) + 1 = ((i + 1 : Nat) : Int) by omega]
        refine ainv hfin (Shift.low 1 (by simp) (by simp) (hlow _) ?_)
        simp only [wkl, lowV, lowC, Av.get, go_sem]
    · have di : decide ((i : Int) < (l.length : Int)) = false := by simp; omega
      have hi : i = l.length := by omega
      rw [hi, List.take_length] at g2
      have hks : ∀ own seen, SeenOk ks own seen ↔ SeenOk (l.map (·.st)) own seen := fun own seen => SeenOk.congr g2
      refine goB (N := 86) Tryz.ntmps30 300 ?_
      simp only [go_sem, di, List.length_map]
      clear hJ J
      refine aloop (ι := Nat × List (List UInt8 × Int)) (fun y => l.length - y.1)
        (fun y => [(28, .int .i64 y.1), (27, .int .i64 l.length), (26, .fz 7 (l.map deA)), (6, .mp 1), (3, .mp 0), (1, .pin 1 [.fz 7 (l.map deA)] 0 0)])
        (fun y => [.mp (thM ks), .mp (bM y.2)]) (fun y => y.1 ≤ l.length ∧ BInv y.2 (fun k => (cnt (l.take y.1) k)) ∧ ∀ j, (h : j < l.length) → j < y.1 → CkAt l j l[j]) (0, []) ⟨by simp, ⟨by simp, by simp, fun k _ => by simp [cnt]⟩, fun j _ h => absurd h (by simp)⟩ ?_ ?_
      · refine Shift.weakS ?_ rfl
        simp only [wk, go_sem, List.length_map]
      · clear hi g1 gi di i
        rintro ⟨i, bs⟩ ⟨g1, gb, ga⟩ J hJ
        simp only at g1 gb ga hJ ⊢
        by_cases gi : i < l.length
        · have di : decide ((i : Int) < (l.length : Int)) = true := by simp; omega
          obtain ⟨d, hd⟩ : ∃ d, d = l[i] := ⟨_, rfl⟩
          have hgi : l[i]? = some d := by rw [hd]; exact List.getElem?_eq_getElem gi
          have hszd : SzD d := by rw [hd]; exact hl.all _ (List.getElem_mem gi)
          have hget := deA_get l i gi
          rw [← hd] at hget
          have hki := isKey_pc d.st.dept hszd.dept
          have hfin : CkAt l i d → ∀ bs', BInv bs' (fun k => cnt (l.take i) k + if d.st.dept = k then 1 else 0) → ∀ a w, Sim _ _ _ a w → J a w := fun hc bs' hb => hJ (i + 1, bs') ⟨by simp only; omega, by
            simp only [cnt_step l i gi, ← hd]
            exact_mod_cast hb, fun j hj h => by
            simp only at h
            rcases Nat.lt_or_ge j i with h2 | h2
            · exact ga j hj h2
            · have : j = i := by omega
              subst this; rw [← hd]; exact hc⟩ (by simp only; omega)
          have hret : ∀ (n : Int), n ≠ 0 → ¬ CkAt l i d → ∃ m : Int, AV.int .i64 n = .int .i64 m ∧ (m = 0 ↔ CkOk l) := fun n hn hc => ⟨n, rfl, ⟨fun h => absurd h hn, fun h => absurd h (CkOk.no hgi hc)⟩⟩
          have hlow2 : ∀ x : Blk, ([Blk.mp (thM ks), Blk.mp (bM bs), x].take 2).all (lowB 2) = true := fun x => by
            simp only [List.take_succ_cons, List.take_zero, List.all_cons, List.all_nil, low_thM, low_bM, Bool.and_self]
          refine goB (N := 86) Tryz.ntmps30 300 ?_
          simp only [go_sem, di, hget, List.length_map]
          repeat refine And.intro (by first | omega | rfl | (simp; omega)) ?_
          refine pcall1 (hki) rfl (N := 86) Tryz.ntmps30 rfl (goB (N := 86) Tryz.ntmps30 300 ?_)
          cases hk1 : keyL d.st.dept with
          | false =>
            simp only [go_sem]
            exact aret [2] rfl ⟨hret 5 (by decide) (fun h => by rw [h.key] at hk1; cases hk1), rfl⟩
          | true =>
            by_cases hi0 : i = 0
            · have e0 : decide ((i : Int) > 0) = false := by simp; omega
              have hord : 0 < i → ∀ p, l[i - 1]? = some p → stLt p.st d.st := fun h => absurd h (by omega)
              simp only [go_sem]
              refine adraw [.any] mixed (by decide) (N := 86) Tryz.ntmps30 (by decide) 100 ?_
              simp only [go_sem, e0]
              repeat refine And.intro (by first | omega | rfl | (simp; omega)) ?_
              refine goB (N := 86) Tryz.ntmps30 300 ?_
              rcases bM_find d.st.dept bs 0 with ⟨m1, m2⟩ | ⟨q, v, m1, m2⟩
              · have hz := gb.none _ m2
                cases e3 : d.st.no != 1 with
                | true =>
                  simp only [go_sem, m1, e3]
                  repeat refine And.intro (by first | omega | rfl | kernel_rfl) ?_
                  refine aret [2] rfl ⟨hret 1 (by decide) fun h => ?_, rfl⟩
                  have := h.no
                  simp at e3
                  omega
                | false =>
                  simp only [go_sem, m1, e3, bM_push, bM_set]
                  repeat refine And.intro (by first | omega | rfl | kernel_rfl) ?_
                  have hcs := checkSeen_ct d ks [.mp (bM (bs ++ [(d.st.dept, 1)])), .arr 7 [deA d]] (by simp only [List.all_cons, List.all_nil, low_bM, low_de, Bool.and_self]) hszd.seen hszd.keys
                  simp only [deA] at hcs
                  refine acall (hcs) (N := 86) Tryz.ntmps30 rfl ?_
                  rintro _ _ ⟨⟨n, rfl, hn⟩, rfl⟩
                  rw [hks] at hn
                  refine goB (N := 86) Tryz.ntmps30 300 ?_
                  cases e4 : n != 0 with
                  | true =>
                    simp only [go_sem, e4]
                    exact aret [2] rfl ⟨hret n (by simpa using e4) (fun h => by simp [hn.2 h.seen] at e4), rfl⟩
                  | false =>
                    have hn0 : n = 0 := by simpa using e4
                    subst hn0
                    simp only [go_sem, e4]
                    have hbf := bodyFault_pc d hszd.paper hszd.text hszd.person
                    simp only [deA] at hbf
                    refine pcall1 (hbf) rfl (N := 86) Tryz.ntmps30 rfl (goB (N := 86) Tryz.ntmps30 300 ?_)
                    cases e5 : bodyL d.kind d.paper d.text d.person != 0 with
                    | true =>
                      simp only [go_sem, e5]
                      exact aret [2] rfl ⟨hret _ (by simpa using e5) (fun h => by simp [h.body] at e5), rfl⟩
                    | false =>
                      simp only [go_sem, e5]
                      repeat refine And.intro (by first | omega | rfl) ?_
                      rw [show (i : Int) + 1 = ((i + 1 : Nat) : Int) by omega]
                      refine ainv (hfin ⟨hk1, hord, by simp at e3; omega, hn.1 rfl, by simpa using e5⟩ _ (gb.push m2)) (Shift.low 2 (by simp) (by simp) ?_ ?_)
                      · simp only [List.take_succ_cons, List.take_zero, List.all_cons, List.all_nil, low_thM, low_bM, Bool.and_self]
                      · simp only [wkl, lowV, lowC, Av.get, go_sem]
              · have hv := gb.val _ (List.mem_of_getElem? m2)
                simp only at hv
                have hv2 : cnt (l.take i) d.st.dept ≤ i := Nat.le_trans (List.countP_le_length) (by simp; omega)
                rw [Nat.zero_add] at m1
                cases e3 : d.st.no != v + 1 with
                | true =>
                  simp only [go_sem, m1, e3]
                  repeat refine And.intro (by first | omega | rfl | kernel_rfl) ?_
                  refine aret [2] rfl ⟨hret 1 (by decide) fun h => ?_, rfl⟩
                  have := h.no
                  simp at e3
                  omega
                | false =>
                  simp only [go_sem, m1, e3, bM_push, bM_set]
                  repeat refine And.intro (by first | omega | rfl | kernel_rfl) ?_
                  have hcs := checkSeen_ct d ks [.mp (bM (bs.set q (d.st.dept, v + 1))), .arr 7 [deA d]] (by simp only [List.all_cons, List.all_nil, low_bM, low_de, Bool.and_self]) hszd.seen hszd.keys
                  simp only [deA] at hcs
                  refine acall (hcs) (N := 86) Tryz.ntmps30 rfl ?_
                  rintro _ _ ⟨⟨n, rfl, hn⟩, rfl⟩
                  rw [hks] at hn
                  refine goB (N := 86) Tryz.ntmps30 300 ?_
                  cases e4 : n != 0 with
                  | true =>
                    simp only [go_sem, e4]
                    exact aret [2] rfl ⟨hret n (by simpa using e4) (fun h => by simp [hn.2 h.seen] at e4), rfl⟩
                  | false =>
                    have hn0 : n = 0 := by simpa using e4
                    subst hn0
                    simp only [go_sem, e4]
                    have hbf := bodyFault_pc d hszd.paper hszd.text hszd.person
                    simp only [deA] at hbf
                    refine pcall1 (hbf) rfl (N := 86) Tryz.ntmps30 rfl (goB (N := 86) Tryz.ntmps30 300 ?_)
                    cases e5 : bodyL d.kind d.paper d.text d.person != 0 with
                    | true =>
                      simp only [go_sem, e5]
                      exact aret [2] rfl ⟨hret _ (by simpa using e5) (fun h => by simp [h.body] at e5), rfl⟩
                    | false =>
                      simp only [go_sem, e5]
                      repeat refine And.intro (by first | omega | rfl) ?_
                      rw [show (i : Int) + 1 = ((i + 1 : Nat) : Int) by omega]
                      refine ainv (hfin ⟨hk1, hord, by simp at e3; omega, hn.1 rfl, by simpa using e5⟩ _ (gb.set m2)) (Shift.low 2 (by simp) (by simp) ?_ ?_)
                      · simp only [List.take_succ_cons, List.take_zero, List.all_cons, List.all_nil, low_thM, low_bM, Bool.and_self]
                      · simp only [wkl, lowV, lowC, Av.get, go_sem]
            · have e0 : decide ((i : Int) > 0) = true := by simp; omega
              have hp : ((i : Int) - 1).toNat = i - 1 := by omega
              obtain ⟨p, hpd⟩ : ∃ p, p = l[i - 1]'(by omega) := ⟨_, rfl⟩
              have hgp := deA_get l (i - 1) (by omega)
              rw [← hpd] at hgp
              have hpe : l[i - 1]? = some p := by rw [hpd]; exact List.getElem?_eq_getElem (by omega)
              have hbs := byStamp_pc p.st d.st
              simp only [stA] at hbs
              cases e2 : decide (stCmp p.st d.st ≥ 0) with
              | true =>
                simp only [go_sem]
                refine adraw [.int .i64 (stCmp p.st d.st)] mixed (by decide) (N := 86) Tryz.ntmps30 (by decide) 100 ?_
                simp only [go_sem, e0, e2, hp, hgp, List.length_map]
                repeat refine And.intro (by first | exact hbs.at | omega | rfl | (simp; omega)) ?_
                refine goB (N := 86) Tryz.ntmps30 300 ?_
                simp only [go_sem]
                refine aret [2] rfl ⟨hret 7 (by decide) fun h => ?_, rfl⟩
                have := stCmp_lt.2 (h.order (by omega) p hpe)
                simp at e2
                omega
              | false =>
                have hord : 0 < i → ∀ p', l[i - 1]? = some p' → stLt p'.st d.st := fun _ p' hp' => by
                  rw [hpe] at hp'; cases hp'
                  exact stCmp_lt.1 (by simp at e2; omega)
                simp only [go_sem]
                refine adraw [.int .i64 (stCmp p.st d.st)] mixed (by decide) (N := 86) Tryz.ntmps30 (by decide) 100 ?_
                simp only [go_sem, e0, e2, hp, hgp, List.length_map]
                repeat refine And.intro (by first | exact hbs.at | omega | rfl | (simp; omega)) ?_
                refine goB (N := 86) Tryz.ntmps30 300 ?_
                rcases bM_find d.st.dept bs 0 with ⟨m1, m2⟩ | ⟨q, v, m1, m2⟩
                · have hz := gb.none _ m2
                  cases e3 : d.st.no != 1 with
                  | true =>
                    simp only [go_sem, m1, e3]
                    repeat refine And.intro (by first | omega | rfl | kernel_rfl) ?_
                    refine aret [2] rfl ⟨hret 1 (by decide) fun h => ?_, rfl⟩
                    have := h.no
                    simp at e3
                    omega
                  | false =>
                    simp only [go_sem, m1, e3, bM_push, bM_set]
                    repeat refine And.intro (by first | omega | rfl | kernel_rfl) ?_
                    have hcs := checkSeen_ct d ks [.mp (bM (bs ++ [(d.st.dept, 1)])), .arr 7 [deA d]] (by simp only [List.all_cons, List.all_nil, low_bM, low_de, Bool.and_self]) hszd.seen hszd.keys
                    simp only [deA] at hcs
                    refine acall (hcs) (N := 86) Tryz.ntmps30 rfl ?_
                    rintro _ _ ⟨⟨n, rfl, hn⟩, rfl⟩
                    rw [hks] at hn
                    refine goB (N := 86) Tryz.ntmps30 300 ?_
                    cases e4 : n != 0 with
                    | true =>
                      simp only [go_sem, e4]
                      exact aret [2] rfl ⟨hret n (by simpa using e4) (fun h => by simp [hn.2 h.seen] at e4), rfl⟩
                    | false =>
                      have hn0 : n = 0 := by simpa using e4
                      subst hn0
                      simp only [go_sem, e4]
                      have hbf := bodyFault_pc d hszd.paper hszd.text hszd.person
                      simp only [deA] at hbf
                      refine pcall1 (hbf) rfl (N := 86) Tryz.ntmps30 rfl (goB (N := 86) Tryz.ntmps30 300 ?_)
                      cases e5 : bodyL d.kind d.paper d.text d.person != 0 with
                      | true =>
                        simp only [go_sem, e5]
                        exact aret [2] rfl ⟨hret _ (by simpa using e5) (fun h => by simp [h.body] at e5), rfl⟩
                      | false =>
                        simp only [go_sem, e5]
                        repeat refine And.intro (by first | omega | rfl) ?_
                        rw [show (i : Int) + 1 = ((i + 1 : Nat) : Int) by omega]
                        refine ainv (hfin ⟨hk1, hord, by simp at e3; omega, hn.1 rfl, by simpa using e5⟩ _ (gb.push m2)) (Shift.low 2 (by simp) (by simp) ?_ ?_)
                        · simp only [List.take_succ_cons, List.take_zero, List.all_cons, List.all_nil, low_thM, low_bM, Bool.and_self]
                        · simp only [wkl, lowV, lowC, Av.get, go_sem]
                · have hv := gb.val _ (List.mem_of_getElem? m2)
                  simp only at hv
                  have hv2 : cnt (l.take i) d.st.dept ≤ i := Nat.le_trans (List.countP_le_length) (by simp; omega)
                  rw [Nat.zero_add] at m1
                  cases e3 : d.st.no != v + 1 with
                  | true =>
                    simp only [go_sem, m1, e3]
                    repeat refine And.intro (by first | omega | rfl | kernel_rfl) ?_
                    refine aret [2] rfl ⟨hret 1 (by decide) fun h => ?_, rfl⟩
                    have := h.no
                    simp at e3
                    omega
                  | false =>
                    simp only [go_sem, m1, e3, bM_push, bM_set]
                    repeat refine And.intro (by first | omega | rfl | kernel_rfl) ?_
                    have hcs := checkSeen_ct d ks [.mp (bM (bs.set q (d.st.dept, v + 1))), .arr 7 [deA d]] (by simp only [List.all_cons, List.all_nil, low_bM, low_de, Bool.and_self]) hszd.seen hszd.keys
                    simp only [deA] at hcs
                    refine acall (hcs) (N := 86) Tryz.ntmps30 rfl ?_
                    rintro _ _ ⟨⟨n, rfl, hn⟩, rfl⟩
                    rw [hks] at hn
                    refine goB (N := 86) Tryz.ntmps30 300 ?_
                    cases e4 : n != 0 with
                    | true =>
                      simp only [go_sem, e4]
                      exact aret [2] rfl ⟨hret n (by simpa using e4) (fun h => by simp [hn.2 h.seen] at e4), rfl⟩
                    | false =>
                      have hn0 : n = 0 := by simpa using e4
                      subst hn0
                      simp only [go_sem, e4]
                      have hbf := bodyFault_pc d hszd.paper hszd.text hszd.person
                      simp only [deA] at hbf
                      refine pcall1 (hbf) rfl (N := 86) Tryz.ntmps30 rfl (goB (N := 86) Tryz.ntmps30 300 ?_)
                      cases e5 : bodyL d.kind d.paper d.text d.person != 0 with
                      | true =>
                        simp only [go_sem, e5]
                        exact aret [2] rfl ⟨hret _ (by simpa using e5) (fun h => by simp [h.body] at e5), rfl⟩
                      | false =>
                        simp only [go_sem, e5]
                        repeat refine And.intro (by first | omega | rfl) ?_
                        rw [show (i : Int) + 1 = ((i + 1 : Nat) : Int) by omega]
                        refine ainv (hfin ⟨hk1, hord, by simp at e3; omega, hn.1 rfl, by simpa using e5⟩ _ (gb.set m2)) (Shift.low 2 (by simp) (by simp) ?_ ?_)
                        · simp only [List.take_succ_cons, List.take_zero, List.all_cons, List.all_nil, low_thM, low_bM, Bool.and_self]
                        · simp only [wkl, lowV, lowC, Av.get, go_sem]
        · have di : decide ((i : Int) < (l.length : Int)) = false := by simp; omega
          have hat : ∀ j d, l[j]? = some d → CkAt l j d := fun j d hj => by
            have hlt := (List.getElem?_eq_some_iff.1 hj).1
            have := ga j hlt (by omega)
            rw [(List.getElem?_eq_some_iff.1 hj).2] at this
            exact this
          have hf := anyDe_pc 81 [.pin 1 [.fz 7 (l.map deA)] 0 0] rfl (fun d => !closedL l d) l (by omega) fun x hx => checkFn_pc l hsz x (hsz.2 x hx)
          refine goB (N := 86) Tryz.ntmps30 300 ?_
          simp only [go_sem, di]
          refine pcall1 (hf) rfl (N := 86) Tryz.ntmps30 rfl (goB (N := 86) Tryz.ntmps30 300 ?_)
          cases hc : l.any fun d => !closedL l d with
          | true =>
            simp only [go_sem]
            refine aret [2] rfl ⟨⟨3, rfl, ⟨fun h => absurd h (by decide), fun h => ?_⟩⟩, rfl⟩
            obtain ⟨x, hx, h2⟩ := List.any_eq_true.1 hc
            rw [h.closed x hx] at h2
            cases h2
          | false =>
            simp only [go_sem]
            refine aret [2] rfl ⟨⟨0, rfl, ⟨fun _ => ⟨by omega, hat, fun x hx => ?_⟩, fun _ => rfl⟩⟩, rfl⟩
            rw [List.any_eq_false] at hc
            simpa using hc x hx
end Go.Proofs.YtkomcdohejibmaaGreatDoor
