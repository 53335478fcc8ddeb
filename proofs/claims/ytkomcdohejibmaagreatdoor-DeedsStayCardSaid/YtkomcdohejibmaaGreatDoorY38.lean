/- MayOf, told of its members. Own work of this seat. -/
import Derived.Test.YtkomcdohejibmaaGreatDoorY34
import Derived.Test.YtkomcdohejibmaaGreatDoorY37
import Derived.Test.YtkomcdohejibmaaGreatDoorY22
import Derived.Test.YtkomcdohejibmaaGreatDoorY21
import Derived.Test.YtkomcdohejibmaaGreatDoorY16
set_option maxRecDepth 100000
set_option linter.unusedSimpArgs false
set_option linter.unusedVariables false
namespace Go.Proofs.YtkomcdohejibmaaGreatDoor
open Go Go.Av Go.RowKit

def rmayP (l : List De) (paper k : List UInt8) : Bool := (l.filter (giveP paper)).any (fun d => d.person == k) && !((headsL ((l.filter (giveP paper)).filter fun d => d.person == k)).any fun d => d.kind == 4)
set_option maxHeartbeats 8000000 in
theorem mayOfX_pc (hsort : SortStrs) (l : List De) (paper : List UInt8) (hl : SzL l) (hlen : l.length ≤ 1000) : Pc Tryz.prog 104 [.fz 7 (l.map deA), .str paper] (fun r => ∃ o : List (List UInt8), r = .fz 1 (o.map .str) ∧ o.length ≤ 1000 ∧ ∀ k, k ∈ o ↔ rmayP l paper k = true) := by
  refine pc_intro (ct_intro Tryz.func104 rfl Tryz.ntmps104 hB104 (by simp) fun h ρ w => goB (N := 61) Tryz.ntmps104 300 ?_)
  simp only [go_sem, List.length_map]
  refine aloop (ι := Nat × List Gr × List Blk) (fun y => l.length - y.1)
    (fun y => [(14, .int .i64 y.1), (13, .int .i64 l.length), (12, .fz 7 (l.map deA)), (5, .mp 0), (1, .str paper)])
    (fun y => .mp (gM y.2.1) :: y.2.2) (fun y => y.1 ≤ l.length ∧ y.2.1.length ≤ y.1 ∧ GOk l y.1 y.2.1 y.2.2 ∧ GEx ((l.take y.1).filter (giveP paper)) y.2.1) (0, [], []) ⟨by simp, by simp, ⟨by simp, by simp, by simp, .nil⟩, ⟨by simp, .nil, by simp, by simp⟩⟩ ?_ ?_
  · refine Shift.weakS ?_ rfl
    simp only [wk, go_sem]
  rintro ⟨i, gs, B⟩ ⟨g1, g2, g3, g4⟩ J hJ
  simp only at g1 g2 g3 g4 hJ ⊢
  by_cases gi : i < l.length
  · have di : decide ((i : Int) < (l.length : Int)) = true := by simp; omega
    have p1 := deA_get l i gi
    have hdA : deA l[i] = .agg [.str l[i].st.dept, .int .i64 l[i].st.no, .fz 2 (l[i].seen.map stA), .int .i64 l[i].kind, .str l[i].paper, .str l[i].text, .str l[i].person] := rfl
    have hst := filter_step (giveP paper) l i gi
    have hno0 : giveP paper l[i] = false → _ := fun hgp => hJ (i + 1, gs, B ++ [.arr 7 [deA l[i]]]) ⟨by simp only; omega, by simp only; omega, g3.weak _, by simp only; rw [hst, hgp]; simpa using g4⟩ (by simp only; omega)
    rw [hdA] at hno0
    cases dp : l[i].paper == paper with
    | false =>
      have hno := hno0 (by unfold giveP; rw [dp]; rfl)
      refine goB (N := 61) Tryz.ntmps104 300 ?_
      simp only [go_sem, di, p1, dp, List.length_map, getD_end, set_end]
      repeat refine And.intro (by first | omega | rfl | kernel_rfl | exact .inl rfl | exact .inl trivial | (simp; done) | (simp; omega)) ?_
      rw [show (i : Int) + 1 = ((i + 1 : Nat) : Int) by omega]
      refine ainv hno (Shift.weakS ?_ rfl)
      simp only [wk, go_sem]
    | true =>
      by_cases hk : l[i].kind = 3 ∨ l[i].kind = 4
      · have hgp : giveP paper l[i] = true := by
          unfold giveP
          rw [dp]
          rcases hk with hk | hk <;> simp [hk]
        rw [hgp, if_pos rfl] at hst
        rcases gM_find2 l[i].person gs 0 with ⟨m1, m0⟩ | ⟨j, g, m1, m2, m3⟩
        · have hfin := hJ (i + 1, gs ++ [⟨l[i].person, B.length + 1, [l[i]]⟩], B ++ [.arr 7 [deA l[i]]] ++ [.arr 7 [deA l[i]]]) ⟨by simp only; omega, by simp; omega, g3.push _ _ (List.getElem_mem gi), by simp only; rw [hst]; exact g4.push m0⟩ (by simp only; omega)
          rw [← gM_push, hdA] at hfin
          simp only [List.length_cons, List.length_nil, Nat.zero_add] at hfin
          cases d3 : l[i].kind == 3 with
          | true =>
            refine goB (N := 61) Tryz.ntmps104 300 ?_
            simp only [go_sem, di, p1, dp, d3, List.length_map, getD_end, set_end]
            repeat refine And.intro (by first | omega | rfl | kernel_rfl | exact .inl rfl | exact .inl trivial | (simp; done) | (simp; omega)) ?_
            refine adrawA ((B.length+2)) [] mixed (by decide) (N := 61) Tryz.ntmps104 (by decide) 100 ?_
            simp only [go_sem, m1, List.length_map, getD_end, set_end, List.length_append, cka, isApp, appOk]
            repeat refine And.intro (by first | omega | rfl | kernel_rfl | exact .inl rfl | exact .inl trivial | (simp; done) | (simp; omega)) ?_
            refine goB (N := 61) Tryz.ntmps104 300 ?_
            simp only [go_sem]
            repeat refine And.intro (by first | omega | rfl | kernel_rfl | exact .inl rfl | exact .inl trivial | (simp; done) | (simp; omega)) ?_
            rw [show (i : Int) + 1 = ((i + 1 : Nat) : Int) by omega]
            refine ainv hfin (Shift.weakS ?_ rfl)
            simp only [wk, go_sem]
          | false =>
            have d4 : (l[i].kind == 4) = true := by simp at d3 ⊢; omega
            refine goB (N := 61) Tryz.ntmps104 300 ?_
            simp only [go_sem, di, p1, dp, d3, d4, List.length_map, getD_end, set_end]
            repeat refine And.intro (by first | omega | rfl | kernel_rfl | exact .inl rfl | exact .inl trivial | (simp; done) | (simp; omega)) ?_
            refine adrawA ((B.length+2)) [] mixed (by decide) (N := 61) Tryz.ntmps104 (by decide) 100 ?_
            simp only [go_sem, m1, List.length_map, getD_end, set_end, List.length_append, cka, isApp, appOk]
            repeat refine And.intro (by first | omega | rfl | kernel_rfl | exact .inl rfl | exact .inl trivial | (simp; done) | (simp; omega)) ?_
            refine goB (N := 61) Tryz.ntmps104 300 ?_
            simp only [go_sem]
            repeat refine And.intro (by first | omega | rfl | kernel_rfl | exact .inl rfl | exact .inl trivial | (simp; done) | (simp; omega)) ?_
            rw [show (i : Int) + 1 = ((i + 1 : Nat) : Int) by omega]
            refine ainv hfin (Shift.weakS ?_ rfl)
            simp only [wk, go_sem]
        · have hlt := g3.lt (List.mem_of_getElem? m2)
          have hgl := g3.len g (List.mem_of_getElem? m2)
          have hfin := hJ (i + 1, gs.set j ⟨g.key, g.at', g.ds ++ [l[i]]⟩, (B ++ [Blk.arr 7 [deA l[i]]]).set g.at' (Blk.arr 7 ((g.ds ++ [l[i]]).map deA))) ⟨by simp only; omega, by simp; omega, g3.put _ m2 (List.getElem_mem gi), by simp only; rw [hst]; exact g4.put m2 m3⟩ (by simp only; omega)
          rw [← gM_set] at hfin
          simp only [List.length_append, List.length_cons, List.length_nil, List.map_append, List.map_cons, List.map_nil, Nat.zero_add, hdA, m3] at hfin
          have b0 := g3.blk g (List.mem_of_getElem? m2)
          have b1 : ∀ x : Blk, (B ++ [x]).getD g.at' .dead = .arr 7 (g.ds.map deA) := fun x => by
            rw [List.getD_eq_getElem?_getD, List.getElem?_append_left hlt, b0]; rfl
          rw [Nat.zero_add] at m1
          cases d3 : l[i].kind == 3 with
          | true =>
            refine goB (N := 61) Tryz.ntmps104 300 ?_
            simp only [go_sem, di, p1, dp, d3, List.length_map, getD_end, set_end]
            repeat refine And.intro (by first | omega | rfl | kernel_rfl | exact .inl rfl | exact .inl trivial | (simp; done) | (simp; omega)) ?_
            refine adrawA ((g.at'+1)) [] mixed (by decide) (N := 61) Tryz.ntmps104 (by decide) 100 ?_
            simp only [go_sem, m1, b1, List.length_map, getD_end, set_end, List.length_append, cka, isApp, appOk]
            repeat refine And.intro (by first | omega | rfl | kernel_rfl | exact .inl rfl | exact .inl trivial | (simp; done) | (simp; omega)) ?_
            refine goB (N := 61) Tryz.ntmps104 300 ?_
            simp only [go_sem]
            repeat refine And.intro (by first | omega | rfl | kernel_rfl | exact .inl rfl | exact .inl trivial | (simp; done) | (simp; omega)) ?_
            rw [show (i : Int) + 1 = ((i + 1 : Nat) : Int) by omega]
            refine ainv hfin (Shift.weakS ?_ rfl)
            simp only [wk, go_sem]
          | false =>
            have d4 : (l[i].kind == 4) = true := by simp at d3 ⊢; omega
            refine goB (N := 61) Tryz.ntmps104 300 ?_
            simp only [go_sem, di, p1, dp, d3, d4, List.length_map, getD_end, set_end]
            repeat refine And.intro (by first | omega | rfl | kernel_rfl | exact .inl rfl | exact .inl trivial | (simp; done) | (simp; omega)) ?_
            refine adrawA ((g.at'+1)) [] mixed (by decide) (N := 61) Tryz.ntmps104 (by decide) 100 ?_
            simp only [go_sem, m1, b1, List.length_map, getD_end, set_end, List.length_append, cka, isApp, appOk]
            repeat refine And.intro (by first | omega | rfl | kernel_rfl | exact .inl rfl | exact .inl trivial | (simp; done) | (simp; omega)) ?_
            refine goB (N := 61) Tryz.ntmps104 300 ?_
            simp only [go_sem]
            repeat refine And.intro (by first | omega | rfl | kernel_rfl | exact .inl rfl | exact .inl trivial | (simp; done) | (simp; omega)) ?_
            rw [show (i : Int) + 1 = ((i + 1 : Nat) : Int) by omega]
            refine ainv hfin (Shift.weakS ?_ rfl)
            simp only [wk, go_sem]
      · have d3 : (l[i].kind == 3) = false := by simp; omega
        have d4 : (l[i].kind == 4) = false := by simp; omega
        have hno := hno0 (by unfold giveP; rw [d3, d4]; simp)
        refine goB (N := 61) Tryz.ntmps104 300 ?_
        simp only [go_sem, di, p1, dp, d3, d4, List.length_map, getD_end, set_end]
        repeat refine And.intro (by first | omega | rfl | kernel_rfl | exact .inl rfl | exact .inl trivial | (simp; done) | (simp; omega)) ?_
        rw [show (i : Int) + 1 = ((i + 1 : Nat) : Int) by omega]
        refine ainv hno (Shift.weakS ?_ rfl)
        simp only [wk, go_sem]
  · have di : decide ((i : Int) < (l.length : Int)) = false := by simp; omega
    clear hJ
    have hi : i = l.length := by omega
    rw [hi, List.take_length] at g4
    refine AWp.shift (freeze_all (by simp) _ (fun _ _ => rfl) (by simp only [wkl, lowV, lowC, Av.get, go_sem]) gs [] B g3.blk g3.ne) ?_
    rw [List.nil_append]
    have hgl : (gF gs).length = gs.length := by simp [gF]
    refine goB (N := 61) Tryz.ntmps104 300 ?_
    simp only [go_sem, di]
    refine aloop (ι := List Nat × List (List UInt8)) (fun y => gs.length - y.1.length)
      (fun y => [(44, .mp 1), (8, .sl 2 0 y.2.length y.2.length)])
      (fun y => [.mp (gF gs), .it 0 gs.length y.1, .arr 1 (y.2.map .str)]) (fun y => y.1.Nodup ∧ (∀ j ∈ y.1, j < gs.length) ∧ y.2.length ≤ y.1.length ∧ ∀ k, k ∈ y.2 ↔ ∃ j ∈ y.1, ∃ g, gs[j]? = some g ∧ g.key = k ∧ (headsL g.ds).any (fun d => d.kind == 4) = false) ([], []) ⟨.nil, by simp, by simp, by simp⟩ ?_ ?_
    · rw [hgl]
      refine Shift.trans (Shift.nilsl 8 1 rfl) (Shift.weakS ?_ rfl)
      simp only [wk, go_sem]
    rintro ⟨seen, o⟩ ⟨n1, n2, n3, n4⟩ J hJ
    simp only at n1 n2 n3 n4 hJ ⊢
    refine goB (N := 61) Tryz.ntmps104 3 ?_
    simp only [go_sem]
    refine anext (id := 1) (mid := 0) (es := gF gs) rfl rfl rfl rfl hgl ?_ ?_
    · intro hall
      have hmem : ∀ k, k ∈ o ↔ rmayP l paper k = true := fun k => by
        rw [n4]
        unfold rmayP
        rw [Bool.and_eq_true, ← g4.keys]
        constructor
        · rintro ⟨j, _, g, h1, rfl, h2⟩
          have hg := List.mem_of_getElem? h1
          refine ⟨List.mem_map.2 ⟨g, hg, rfl⟩, ?_⟩
          rw [← g4.ds g hg, h2]
          rfl
        · rintro ⟨h1, h2⟩
          obtain ⟨g, hg, rfl⟩ := List.mem_map.1 h1
          obtain ⟨j, hj, hgj⟩ := List.getElem_of_mem hg
          refine ⟨j, hall j hj, g, by rw [List.getElem?_eq_getElem hj, hgj], rfl, ?_⟩
          rw [← g4.ds g hg] at h2
          simpa using h2
      have hol : o.length ≤ 1000 := by
        have := pigeon gs.length seen n1 n2
        omega
      have hs := hsort o [.mp (gF gs), .it 0 gs.length seen, .arr 1 (o.map .str)] 2 rfl (by omega)
      refine goB (N := 61) Tryz.ntmps104 300 ?_
      simp only [go_sem]
      refine acall (hs) (N := 61) Tryz.ntmps104 rfl ?_
      rintro _ _ ⟨rfl, o', rfl, hp⟩
      have hl2 := hp.length_eq
      have htk : ((o'.map AV.str).drop 0).take o.length = o'.map AV.str := by rw [← hl2, List.drop_zero, take_map]
      refine goB (N := 61) Tryz.ntmps104 300 ?_
      simp only [go_sem]
      refine ARet.shift (Shift.freeze 4 (id := 2) (l := o'.map .str) rfl rfl (by simp; omega) (Nat.le_refl _) (strs_frz _)) (aret [4] rfl ⟨⟨o', ?_, by omega, fun k => by rw [hp.mem_iff, hmem]⟩, ?_⟩)
      · simp only [resV, Av.get, Av.put, beq_self_eq_true, cond_true, htk]
      · rfl
    · intro j z hj hz
      obtain ⟨g, hg, rfl⟩ : ∃ g, gs[j]? = some g ∧ (AV.str g.key, AV.fz 7 (g.ds.map deA)) = z := by
        unfold gF at hz
        rw [List.getElem?_map] at hz
        exact Option.map_eq_some_iff.1 hz
      have hlast : (gF gs).getD ((seen ++ [j]).getLastD 0) (.any, .any) = (.str g.key, .fz 7 (g.ds.map deA)) := by
        rw [show (seen ++ [j]).getLastD 0 = j by simp, List.getD_eq_getElem?_getD, hz]; rfl
      have hgm := List.mem_of_getElem? hg
      have hjl := (List.getElem?_eq_some_iff.1 hg).1
      have hszg : Sz g.ds := ⟨by have := g3.len g hgm; omega, fun d hd => hl.sz.2 d (g3.sub g hgm d hd)⟩
      have hh := heads_pc g.ds hszg
      have hha := anyDe_pc 160 [] rfl (fun d => d.kind == 4) (headsL g.ds) (by have := (Sz.heads hszg).1; omega) fun x _ => rmayFn_pc x
      have hnd : (seen ++ [j]).Nodup := by
        rw [List.nodup_append]
        exact ⟨n1, by simp, fun a ha b hb e => hj (by rw [List.mem_singleton.1 hb] at e; rw [← e]; exact ha)⟩
      have hlt2 : ∀ x ∈ seen ++ [j], x < gs.length := fun x hx => by
        rcases List.mem_append.1 hx with hx | hx
        · exact n2 x hx
        · rw [List.mem_singleton.1 hx]; exact hjl
      have hpg := pigeon gs.length (seen ++ [j]) hnd hlt2
      rw [List.length_append, List.length_singleton] at hpg
      have hno : (headsL g.ds).any (fun d => d.kind == 4) = true → _ := fun hb => hJ (seen ++ [j], o) ⟨hnd, hlt2, by simp; omega, fun k => by
        rw [n4]
        constructor
        · rintro ⟨j', h1, h2⟩
          exact ⟨j', List.mem_append_left _ h1, h2⟩
        · rintro ⟨j', h1, g', h2, h3, h4⟩
          rcases List.mem_append.1 h1 with h1 | h1
          · exact ⟨j', h1, g', h2, h3, h4⟩
          · rw [List.mem_singleton.1 h1, hg] at h2
            cases h2
            rw [hb] at h4
            cases h4⟩ (by simp; omega)
      have hyes : (headsL g.ds).any (fun d => d.kind == 4) = false → _ := fun hb => hJ (seen ++ [j], o ++ [g.key]) ⟨hnd, hlt2, by simp; omega, fun k => by
        rw [List.mem_append, n4, List.mem_singleton]
        constructor
        · rintro (⟨j', h1, h2⟩ | rfl)
          · exact ⟨j', List.mem_append_left _ h1, h2⟩
          · exact ⟨j, by simp, g, hg, rfl, hb⟩
        · rintro ⟨j', h1, g', h2, h3, h4⟩
          rcases List.mem_append.1 h1 with h1 | h1
          · exact .inl ⟨j', h1, g', h2, h3, h4⟩
          · rw [List.mem_singleton.1 h1, hg] at h2
            cases h2
            exact .inr h3.symm⟩ (by simp; omega)
      simp only [List.length_append, List.length_cons, List.length_nil, List.map_append, List.map_cons, List.map_nil, Nat.zero_add] at hyes
      refine goB (N := 61) Tryz.ntmps104 300 ?_
      simp only [go_sem, hlast]
      repeat refine And.intro (by first | omega | rfl | (simp; done) | (simp; omega)) ?_
      refine pcall1 (hh) rfl (N := 61) Tryz.ntmps104 rfl (goB (N := 61) Tryz.ntmps104 300 ?_)
      simp only [go_sem]
      refine pcall1 (hha) rfl (N := 61) Tryz.ntmps104 rfl (goB (N := 61) Tryz.ntmps104 300 ?_)
      cases hb : (headsL g.ds).any (fun d => d.kind == 4) with
      | true =>
        have hno := hno hb
        simp only [go_sem]
        refine ainv hno (Shift.weakS ?_ rfl)
        simp only [wk, go_sem]
      | false =>
        have hyes := hyes hb
        simp only [go_sem, List.length_map]
        repeat refine And.intro (by first | omega | rfl | exact .inl rfl | exact .inl trivial | (simp; done) | (simp; omega)) ?_
        refine ainv hyes (Shift.weakS ?_ rfl)
        simp only [wk, go_sem]
end Go.Proofs.YtkomcdohejibmaaGreatDoor
/- Calls that change nothing and whose result is not known exactly, in an open-order statement. Own work of this seat. -/
set_option linter.unusedSimpArgs false
set_option linter.unusedVariables false
set_option linter.unusedSectionVars false
namespace Go.Av
open Go Go.RowKit
variable [Tr]
variable {c : Cx} {s : List Blk}

end Go.Av
