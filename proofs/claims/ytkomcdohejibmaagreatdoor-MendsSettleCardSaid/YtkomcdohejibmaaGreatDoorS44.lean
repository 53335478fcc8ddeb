/- Groups are frozen. Own work of this seat. -/
import Derived.Test.YtkomcdohejibmaaGreatDoorS43
import Derived.Test.YtkomcdohejibmaaGreatDoorS22
import Derived.Test.YtkomcdohejibmaaGreatDoorS23
import Derived.Test.YtkomcdohejibmaaGreatDoorS35
import Derived.Test.YtkomcdohejibmaaGreatDoorS36
set_option maxRecDepth 100000
set_option linter.unusedSimpArgs false
set_option linter.unusedVariables false
namespace Go.Proofs.YtkomcdohejibmaaGreatDoor
open Go Go.Av Go.RowKit

def gF (gs : List Gr) : List (AV × AV) := gs.map fun g => (.str g.key, .fz 7 (g.ds.map deA))
theorem gF_frz (id : Nat) (l : List AV) (gs : List Gr) : (gF gs).map (fun x => (x.1, frz id 7 l x.2)) = gF gs := by
  unfold gF
  rw [List.map_map]
  rfl
theorem gM_frz (at' : Nat) (l : List AV) (gs : List Gr) (h : ∀ g ∈ gs, g.at' ≠ at') : (gM gs).map (fun x => (x.1, frz (at' + 1) 7 l x.2)) = gM gs := by
  unfold gM
  rw [List.map_map]
  apply List.map_congr_left
  intro g hg
  have h1 : (g.at' + 1 == at' + 1) = false := by have := h g hg; simp; omega
  simp only [Function.comp, frz, frz1, h1, Bool.false_and, cond_false]
theorem freeze_all {c : Cx} (hc : c.sto.length ≤ 1) (E0 : Env) (hE : ∀ id l, frzE (id + 1) 7 l E0 = E0) (hw : wkl 1 E0 E0) : ∀ (gs done : List Gr) (S : List Blk), (∀ g ∈ gs, S[g.at']? = some (.arr 7 (g.ds.map deA))) → gs.Pairwise (fun x y => x.at' ≠ y.at') →
    Shift c E0 (.mp (gF done ++ gM gs) :: S) E0 [.mp (gF (done ++ gs))]
  | [], done, S, _, _ => by
    rw [show gM [] = [] from rfl, List.append_nil, List.append_nil]
    refine Shift.low 1 hc (by simp) ?_ hw
    simp only [List.take_succ_cons, List.take_zero, List.all_cons, List.all_nil, Bool.and_true]
    show (gF done).all _ = true
    rw [gF, List.all_map, List.all_eq_true]
    intro x hx
    rfl
  | g :: r, done, S, hb, hn => by
    have h0 := hb g (by simp)
    rw [List.pairwise_cons] at hn
    have hs : (Blk.mp (gF done ++ gM (g :: r)) :: S).getD (g.at' + 1) .dead = .arr 7 (g.ds.map deA) := by
      rw [List.getD_cons_succ, List.getD_eq_getElem?_getD, h0]; rfl
    have sh := Shift.frz (c := c) (en := E0) (g.at' + 1) hs (deA_frz _)
    rw [hE] at sh
    have e1 : ((Blk.mp (gF done ++ gM (g :: r)) :: S).set (g.at' + 1) .dead).map (frzB (g.at' + 1) 7 (g.ds.map deA)) = .mp (gF (done ++ [g]) ++ gM r) :: (S.set g.at' .dead).map (frzB (g.at' + 1) 7 (g.ds.map deA)) := by
      rw [List.set_cons_succ, List.map_cons]
      congr 1
      simp only [frzB, List.map_append, gF_frz]
      congr 1
      have e2 : gM (g :: r) = (.str g.key, .sl (g.at' + 1) 0 g.ds.length g.ds.length) :: gM r := rfl
      have e3 : gF (done ++ [g]) = gF done ++ [(.str g.key, .fz 7 (g.ds.map deA))] := by simp [gF]
      rw [e2, e3, List.map_cons, gM_frz _ _ _ (fun y hy => Ne.symm (hn.1 y hy)), List.append_assoc]
      congr 1
      simp only [frz, frz1, beq_self_eq_true, List.length_map, Nat.zero_add, decide_true, Nat.le_refl, Bool.and_self, cond_true, List.drop_zero, take_map, List.cons_append, List.nil_append]
    rw [e1] at sh
    have ih := freeze_all hc E0 hE hw r (done ++ [g]) ((S.set g.at' .dead).map (frzB (g.at' + 1) 7 (g.ds.map deA))) (fun y hy => by
      rw [List.getElem?_map, List.getElem?_set_ne (hn.1 y hy), hb y (by simp [hy])]
      simp only [Option.map_some, frzB, frz_deM]) hn.2
    rw [List.append_assoc] at ih
    exact Shift.trans sh ih
end Go.Proofs.YtkomcdohejibmaaGreatDoor
/- MayOf's first loop. Own work of this seat. -/
set_option maxRecDepth 100000
set_option linter.unusedSimpArgs false
set_option linter.unusedVariables false
namespace Go.Proofs.YtkomcdohejibmaaGreatDoor
open Go Go.Av Go.RowKit

theorem pigeon : ∀ (n : Nat) (l : List Nat), l.Nodup → (∀ x ∈ l, x < n) → l.length ≤ n
  | 0, l, _, h => by
    cases l with
    | nil => simp
    | cons a l => exact absurd (h a (by simp)) (by omega)
  | n + 1, l, hn, h => by
    have h1 := pigeon n (l.erase n) (hn.erase n) (fun x hx => by
      have h2 := h x (List.mem_of_mem_erase hx)
      have h3 : x ≠ n := fun e => by
        subst e
        exact (hn.not_mem_erase) hx
      omega)
    have h4 := List.length_erase (a := n) (l := l)
    split at h4 <;> omega
/-- what is wanted of slices.Sort at strings -/
def SortStrs : Prop := ∀ (o : List (List UInt8)) (s : List Blk) (bid : Nat), s[bid]? = some (.arr 1 (o.map .str)) → o.length < 1000000 → Ct Tryz.prog 111 [.sl bid 0 o.length o.length] s (fun r s' => r = .tup [] ∧ ∃ o' : List (List UInt8), s' = s.set bid (.arr 1 (o'.map .str)) ∧ o'.Perm o)
set_option maxHeartbeats 8000000 in
theorem mayOf_pc (hsort : SortStrs) (l : List De) (paper : List UInt8) (hl : SzL l) (hlen : l.length ≤ 1000) : Pc Tryz.prog 104 [.fz 7 (l.map deA), .str paper] (fun r => ∃ o : List (List UInt8), r = .fz 1 (o.map .str) ∧ o.length ≤ 1000) := by
  refine pc_intro (ct_intro Tryz.func104 rfl Tryz.ntmps104 hB104 (by simp) fun h ρ w => goB (N := 61) Tryz.ntmps104 300 ?_)
  simp only [go_sem, List.length_map]
  refine aloop (ι := Nat × List Gr × List Blk) (fun y => l.length - y.1)
    (fun y => [(14, .int .i64 y.1), (13, .int .i64 l.length), (12, .fz 7 (l.map deA)), (5, .mp 0), (1, .str paper)])
    (fun y => .mp (gM y.2.1) :: y.2.2) (fun y => y.1 ≤ l.length ∧ y.2.1.length ≤ y.1 ∧ GOk l y.1 y.2.1 y.2.2) (0, [], []) ⟨by simp, by simp, ⟨by simp, by simp, by simp, .nil⟩⟩ ?_ ?_
  · refine Shift.weakS ?_ rfl
    simp only [wk, go_sem]
  rintro ⟨i, gs, B⟩ ⟨g1, g2, g3⟩ J hJ
  simp only at g1 g2 g3 hJ ⊢
  by_cases gi : i < l.length
  · have di : decide ((i : Int) < (l.length : Int)) = true := by simp; omega
    have p1 := deA_get l i gi
    have hdA : deA l[i] = .agg [.str l[i].st.dept, .int .i64 l[i].st.no, .fz 2 (l[i].seen.map stA), .int .i64 l[i].kind, .str l[i].paper, .str l[i].text, .str l[i].person] := rfl
    have hno := hJ (i + 1, gs, B ++ [.arr 7 [deA l[i]]]) ⟨by simp only; omega, by simp only; omega, g3.weak _⟩ (by simp only; omega)
    rw [hdA] at hno
    cases dp : l[i].paper == paper with
    | false =>
      refine goB (N := 61) Tryz.ntmps104 300 ?_
      simp only [go_sem, di, p1, dp, List.length_map, getD_end, set_end]
      repeat refine And.intro (by first | omega | rfl | kernel_rfl | exact .inl rfl | exact .inl trivial | (simp; done) | (simp; omega)) ?_
      rw [show (i : Int) + 1 = ((i + 1 : Nat) : Int) by omega]
      refine ainv hno (Shift.weakS ?_ rfl)
      simp only [wk, go_sem]
    | true =>
      by_cases hk : l[i].kind = 3 ∨ l[i].kind = 4
      · rcases gM_find l[i].person gs 0 with m1 | ⟨j, g, m1, m2, m3⟩
        · have hfin := hJ (i + 1, gs ++ [⟨l[i].person, B.length + 1, [l[i]]⟩], B ++ [.arr 7 [deA l[i]]] ++ [.arr 7 [deA l[i]]]) ⟨by simp only; omega, by simp; omega, g3.push _ _ (List.getElem_mem gi)⟩ (by simp only; omega)
          rw [← gM_push, hdA] at hfin
          simp only [List.length_cons, List.length_nil, Nat.zero_add] at hfin
          cases d3 : l[i].kind == 3 with
          | true =>
            refine goB (N := 61) Tryz.ntmps104 300 ?_
            simp only [go_sem, di, p1, dp, d3, List.length_map, getD_end, set_end]
            repeat refine And.intro (by first | omega | rfl | kernel_rfl | exact .inl rfl | exact .inl trivial | (simp; done) | (simp; omega)) ?_
            refine adrawA ((B.length+2)) [] mixed (by decide) (N := 61) Tryz.ntmps104 (by decide) 100 ?_
            simp only [go_sem, m1, List.length_map, getD_end, set_end, List.length_append, cka, isApp, appOk]
            repeat refine And.intro (by first | omega | rfl | kernel_rfl | exact .inl rfl | exact .inl trivial | (simp; done) | (simp; omega)) ?_
            refine goB (N := 61) Tryz.ntmps104 300 ?_
            simp only [go_sem]
            repeat refine And.intro (by first | omega | rfl | kernel_rfl | exact .inl rfl | exact .inl trivial | (simp; done) | (simp; omega)) ?_
            rw [show (i : Int) + 1 = ((i + 1 : Nat) : Int) by omega]
            refine ainv hfin (Shift.weakS ?_ rfl)
            simp only [wk, go_sem]
          | false =>
            have d4 : (l[i].kind == 4) = true := by simp at d3 ⊢; omega
            refine goB (N := 61) Tryz.ntmps104 300 ?_
            simp only [go_sem, di, p1, dp, d3, d4, List.length_map, getD_end, set_end]
            repeat refine And.intro (by first | omega | rfl | kernel_rfl | exact .inl rfl | exact .inl trivial | (simp; done) | (simp; omega)) ?_
            refine adrawA ((B.length+2)) [] mixed (by decide) (N := 61) Tryz.ntmps104 (by decide) 100 ?_
            simp only [go_sem, m1, List.length_map, getD_end, set_end, List.length_append, cka, isApp, appOk]
            repeat refine And.intro (by first | omega | rfl | kernel_rfl | exact .inl rfl | exact .inl trivial | (simp; done) | (simp; omega)) ?_
            refine goB (N := 61) Tryz.ntmps104 300 ?_
            simp only [go_sem]
            repeat refine And.intro (by first | omega | rfl | kernel_rfl | exact .inl rfl | exact .inl trivial | (simp; done) | (simp; omega)) ?_
            rw [show (i : Int) + 1 = ((i + 1 : Nat) : Int) by omega]
            refine ainv hfin (Shift.weakS ?_ rfl)
            simp only [wk, go_sem]
        · have hlt := g3.lt (List.mem_of_getElem? m2)
          have hgl := g3.len g (List.mem_of_getElem? m2)
          have hfin := hJ (i + 1, gs.set j ⟨g.key, g.at', g.ds ++ [l[i]]⟩, (B ++ [Blk.arr 7 [deA l[i]]]).set g.at' (Blk.arr 7 ((g.ds ++ [l[i]]).map deA))) ⟨by simp only; omega, by simp; omega, g3.put _ m2 (List.getElem_mem gi)⟩ (by simp only; omega)
          rw [← gM_set] at hfin
          simp only [List.length_append, List.length_cons, List.length_nil, List.map_append, List.map_cons, List.map_nil, Nat.zero_add, hdA, m3] at hfin
          have b0 := g3.blk g (List.mem_of_getElem? m2)
          have b1 : ∀ x : Blk, (B ++ [x]).getD g.at' .dead = .arr 7 (g.ds.map deA) := fun x => by
            rw [List.getD_eq_getElem?_getD, List.getElem?_append_left hlt, b0]; rfl
          rw [Nat.zero_add] at m1
          cases d3 : l[i].kind == 3 with
          | true =>
            refine goB (N := 61) Tryz.ntmps104 300 ?_
            simp only [go_sem, di, p1, dp, d3, List.length_map, getD_end, set_end]
            repeat refine And.intro (by first | omega | rfl | kernel_rfl | exact .inl rfl | exact .inl trivial | (simp; done) | (simp; omega)) ?_
            refine adrawA ((g.at'+1)) [] mixed (by decide) (N := 61) Tryz.ntmps104 (by decide) 100 ?_
            simp only [go_sem, m1, b1, List.length_map, getD_end, set_end, List.length_append, cka, isApp, appOk]
            repeat refine And.intro (by first | omega | rfl | kernel_rfl | exact .inl rfl | exact .inl trivial | (simp; done) | (simp; omega)) ?_
            refine goB (N := 61) Tryz.ntmps104 300 ?_
            simp only [go_sem]
            repeat refine And.intro (by first | omega | rfl | kernel_rfl | exact .inl rfl | exact .inl trivial | (simp; done) | (simp; omega)) ?_
            rw [show (i : Int) + 1 = ((i + 1 : Nat) : Int) by omega]
            refine ainv hfin (Shift.weakS ?_ rfl)
            simp only [wk, go_sem]
          | false =>
            have d4 : (l[i].kind == 4) = true := by simp at d3 ⊢; omega
            refine goB (N := 61) Tryz.ntmps104 300 ?_
            simp only [go_sem, di, p1, dp, d3, d4, List.length_map, getD_end, set_end]
            repeat refine And.intro (by first | omega | rfl | kernel_rfl | exact .inl rfl | exact .inl trivial | (simp; done) | (simp; omega)) ?_
            refine adrawA ((g.at'+1)) [] mixed (by decide) (N := 61) Tryz.ntmps104 (by decide) 100 ?_
            simp only [go_sem, m1, b1, List.length_map, getD_end, set_end, List.length_append, cka, isApp, appOk]
            repeat refine And.intro (by first | omega | rfl | kernel_rfl | exact .inl rfl | exact .inl trivial | (simp; done) | (simp; omega)) ?_
            refine goB (N := 61) Tryz.ntmps104 300 ?_
            simp only [go_sem]
            repeat refine And.intro (by first | omega | rfl | kernel_rfl | exact .inl rfl | exact .inl trivial | (simp; done) | (simp; omega)) ?_
            rw [show (i : Int) + 1 = ((i + 1 : Nat) : Int) by omega]
            refine ainv hfin (Shift.weakS ?_ rfl)
            simp only [wk, go_sem]
      · have d3 : (l[i].kind == 3) = false := by simp; omega
        have d4 : (l[i].kind == 4) = false := by simp; omega
        refine goB (N := 61) Tryz.ntmps104 300 ?_
        simp only [go_sem, di, p1, dp, d3, d4, List.length_map, getD_end, set_end]
        repeat refine And.intro (by first | omega | rfl | kernel_rfl | exact .inl rfl | exact .inl trivial | (simp; done) | (simp; omega)) ?_
        rw [show (i : Int) + 1 = ((i + 1 : Nat) : Int) by omega]
        refine ainv hno (Shift.weakS ?_ rfl)
        simp only [wk, go_sem]
  · have di : decide ((i : Int) < (l.length : Int)) = false := by simp; omega
    clear hJ
    refine AWp.shift (freeze_all (by simp) _ (fun _ _ => rfl) (by simp only [wkl, lowV, lowC, Av.get, go_sem]) gs [] B g3.blk g3.ne) ?_
    rw [List.nil_append]
    have hgl : (gF gs).length = gs.length := by simp [gF]
    refine goB (N := 61) Tryz.ntmps104 300 ?_
    simp only [go_sem, di]
    refine aloop (ι := List Nat × List (List UInt8)) (fun y => gs.length - y.1.length)
      (fun y => [(44, .mp 1), (8, .sl 2 0 y.2.length y.2.length)])
      (fun y => [.mp (gF gs), .it 0 gs.length y.1, .arr 1 (y.2.map .str)]) (fun y => y.1.Nodup ∧ (∀ j ∈ y.1, j < gs.length) ∧ y.2.length ≤ y.1.length) ([], []) ⟨.nil, by simp, by simp⟩ ?_ ?_
    · rw [hgl]
      refine Shift.trans (Shift.nilsl 8 1 rfl) (Shift.weakS ?_ rfl)
      simp only [wk, go_sem]
    rintro ⟨seen, o⟩ ⟨n1, n2, n3⟩ J hJ
    simp only at n1 n2 n3 hJ ⊢
    refine goB (N := 61) Tryz.ntmps104 3 ?_
    simp only [go_sem]
    refine anext (id := 1) (mid := 0) (es := gF gs) rfl rfl rfl rfl hgl ?_ ?_
    · intro hall
      have hol : o.length ≤ 1000 := by
        have := pigeon gs.length seen n1 n2
        omega
      have hs := hsort o [.mp (gF gs), .it 0 gs.length seen, .arr 1 (o.map .str)] 2 rfl (by omega)
      refine goB (N := 61) Tryz.ntmps104 300 ?_
      simp only [go_sem]
      refine acall (hs) (N := 61) Tryz.ntmps104 rfl ?_
      rintro _ _ ⟨rfl, o', rfl, hp⟩
      have hl2 := hp.length_eq
      have htk : ((o'.map AV.str).drop 0).take o.length = o'.map AV.str := by rw [← hl2, List.drop_zero, take_map]
      refine goB (N := 61) Tryz.ntmps104 300 ?_
      simp only [go_sem]
      refine ARet.shift (Shift.freeze 4 (id := 2) (l := o'.map .str) rfl rfl (by simp; omega) (Nat.le_refl _) (strs_frz _)) (aret [4] rfl ⟨⟨o', ?_, by omega⟩, ?_⟩)
      · simp only [resV, Av.get, Av.put, beq_self_eq_true, cond_true, htk]
      · rfl
    · intro j z hj hz
      obtain ⟨g, hg, rfl⟩ : ∃ g, gs[j]? = some g ∧ (AV.str g.key, AV.fz 7 (g.ds.map deA)) = z := by
        unfold gF at hz
        rw [List.getElem?_map] at hz
        exact Option.map_eq_some_iff.1 hz
      have hlast : (gF gs).getD ((seen ++ [j]).getLastD 0) (.any, .any) = (.str g.key, .fz 7 (g.ds.map deA)) := by
        rw [show (seen ++ [j]).getLastD 0 = j by simp, List.getD_eq_getElem?_getD, hz]; rfl
      have hgm := List.mem_of_getElem? hg
      have hjl := (List.getElem?_eq_some_iff.1 hg).1
      have hszg : Sz g.ds := ⟨by have := g3.len g hgm; omega, fun d hd => hl.sz.2 d (g3.sub g hgm d hd)⟩
      have hh := heads_pc g.ds hszg
      have hha := anyDe_pc 160 [] rfl (fun d => d.kind == 4) (headsL g.ds) (by have := (Sz.heads hszg).1; omega) fun x _ => rmayFn_pc x
      have hnd : (seen ++ [j]).Nodup := by
        rw [List.nodup_append]
        exact ⟨n1, by simp, fun a ha b hb e => hj (by rw [List.mem_singleton.1 hb] at e; rw [← e]; exact ha)⟩
      have hlt2 : ∀ x ∈ seen ++ [j], x < gs.length := fun x hx => by
        rcases List.mem_append.1 hx with hx | hx
        · exact n2 x hx
        · rw [List.mem_singleton.1 hx]; exact hjl
      have hpg := pigeon gs.length (seen ++ [j]) hnd hlt2
      rw [List.length_append, List.length_singleton] at hpg
      have hno := hJ (seen ++ [j], o) ⟨hnd, hlt2, by simp; omega⟩ (by simp; omega)
      have hyes := hJ (seen ++ [j], o ++ [g.key]) ⟨hnd, hlt2, by simp; omega⟩ (by simp; omega)
      simp only [List.length_append, List.length_cons, List.length_nil, List.map_append, List.map_cons, List.map_nil, Nat.zero_add] at hyes
      refine goB (N := 61) Tryz.ntmps104 300 ?_
      simp only [go_sem, hlast]
      repeat refine And.intro (by first | omega | rfl | (simp; done) | (simp; omega)) ?_
      refine pcall1 (hh) rfl (N := 61) Tryz.ntmps104 rfl (goB (N := 61) Tryz.ntmps104 300 ?_)
      simp only [go_sem]
      refine pcall1 (hha) rfl (N := 61) Tryz.ntmps104 rfl (goB (N := 61) Tryz.ntmps104 300 ?_)
      cases hb : (headsL g.ds).any (fun d => d.kind == 4) with
      | true =>
        simp only [go_sem]
        refine ainv hno (Shift.weakS ?_ rfl)
        simp only [wk, go_sem]
      | false =>
        simp only [go_sem, List.length_map]
        repeat refine And.intro (by first | omega | rfl | exact .inl rfl | exact .inl trivial | (simp; done) | (simp; omega)) ?_
        refine ainv hyes (Shift.weakS ?_ rfl)
        simp only [wk, go_sem]
end Go.Proofs.YtkomcdohejibmaaGreatDoor
/- slices.Sort of strings. Own work of this seat. -/
set_option maxRecDepth 100000
set_option linter.unusedSimpArgs false
set_option linter.unusedVariables false
namespace Go.Proofs.YtkomcdohejibmaaGreatDoor
open Go Go.Av Go.RowKit Go.Shelf Go.Sort

theorem strs_cells {h : Mem} {ρ : Go.Av.Own} {s : List Blk} : ∀ (l : List (List UInt8)) (vs : List Value), RL h (Lf ρ s) false vs (flat (l.map AV.str)) → vs = l.map encStr
  | [], vs, r => by cases r; rfl
  | x :: l, vs, r => by
    simp only [List.map_cons, flat, cellsOf, List.cons_append, List.nil_append] at r
    cases r with
    | cons r1 r2 =>
      rw [inv_str r1, strs_cells l _ r2]
      rfl
theorem strs_rl {h : Mem} {L : Value → AV → Prop} : ∀ (l : List (List UInt8)), RL h L false (l.map encStr) (flat (l.map AV.str))
  | [] => .nil
  | x :: l => by
    simp only [List.map_cons, flat, cellsOf, List.cons_append, List.nil_append]
    exact .cons (.str x) (strs_rl l)
theorem sortStrs : SortStrs := by
  intro l s bid hs hl
  refine ⟨hB111, fun h ρ w vs m r => ?_⟩
  have hid := (List.getElem?_eq_some_iff.1 hs).1
  cases r with
  | @cons _ v0 _ _ _ r0 r =>
    cases r
    have hL := (inv_sl r0).2
    simp only [LfC, hs] at hL
    have none_ok : l = [] → ∀ (p : Option Addr) (cap : Nat), v0 = .slice p 0 cap → Calls Tryz.prog 111 #[v0] w fun en w' =>
        ∃ v r s_1 h' ρ', en = .returned v ∧ (r = .tup [] ∧ ∃ l' : List (List UInt8), s_1 = s.set bid (.arr 1 (l'.map .str)) ∧ l'.Perm l) ∧ Mine h' ρ' s_1 w' ∧ Later h ρ s w h' ρ' s_1 w' ∧ RV h' (Lf ρ' s_1) false v r := by
      intro h0 p cap e0
      subst h0 e0
      refine (AnyM.slices_Sort_string_none Tryz.sortS p cap w).mono ?_
      rintro e w' ⟨rfl, rfl⟩
      exact ⟨_, .tup [], s, h, ρ, rfl, ⟨rfl, [], (set_same hs).symm, .nil⟩, m, .refl .., .tup [] [] .nil⟩
    rcases hL.2 (by simp) with ⟨h1, h2, a, rfl⟩ | ⟨g0, tot, h1, rfl, h3⟩
    · exact none_ok (List.eq_nil_of_length_eq_zero h1) (at0 a) 0 rfl
    · by_cases hne : l = []
      · subst hne
        exact none_ok rfl _ _ rfl
      · have hpos : 0 < l.length := List.length_pos_iff.2 hne
        rcases m.own bid _ hs with ⟨hn, _⟩ | ⟨g', tot', cur, tt, i3, i4, i5, i6, i7, i8, i9, i10, i11⟩
        · exact absurd hn (by simpa using hne)
        rw [h1] at i3
        simp only [Option.some.injEq, Prod.mk.injEq] at i3
        obtain ⟨rfl, rfl⟩ := i3
        simp only [List.length_map, Nat.mul_one] at i5 i6 i11
        have hcur := strs_cells l _ i11
        obtain ⟨q, hq⟩ : ∃ q, l.mergeSort (fun x y => decide (x ≤ y)) = q := ⟨_, rfl⟩
        have hp : q.Perm l := by rw [← hq]; exact List.mergeSort_perm l _
        have hql := hp.length_eq
        have hH : Holds encStr w g0 0 l.toArray := by
          intro j hj
          simp only [List.size_toArray] at hj
          have hjc : j < cur.size := by rw [i5]; omega
          refine ⟨?_, by rw [Nat.zero_add]; exact i4.fz hjc⟩
          have h5 : cur.toList[j]? = (l.map encStr)[j]? := by rw [← hcur, List.getElem?_take, if_pos hj]
          rw [Nat.zero_add, i4.cell, ← Array.getElem?_toList, h5, List.getElem?_map, List.getElem?_eq_getElem hj]
          rw [getElem!_pos l.toArray j (by simpa using hj)]
          rfl
        have key := AnyM.slices_Sort_string Tryz.sortS g0 0 (tot - 0) l w hH i4.lt (by omega)
        rw [hq] at key
        simp only [Nat.zero_mul]
        refine Calls.mono key ?_
        rintro e w' ⟨rfl, nn, os, rfl⟩
        obtain ⟨w1, hw1⟩ : ∃ w1, Go.Sort.putRow encStr (Go.Sort.ahead w nn) g0 0 q.toArray = w1 := ⟨_, rfl⟩
        rw [hw1]
        obtain ⟨mk, hmk1, hmk2⟩ := i4
        have hcs : (Go.Sort.putCells encStr 0 q.toArray cur).size = cur.size := by simp [Go.Sort.putCells]
        have hget : w1.heap[g0]? = some (.cells (Go.Sort.putCells encStr 0 q.toArray cur) tt mk) := by
          rw [← hw1]
          simp only [Go.Sort.putRow, mapBlock, Go.Sort.ahead, Array.getElem?_modify, if_true, hmk1, Option.map_some, onCells]
        have hoth : ∀ b, b ≠ g0 → w1.heap[b]? = w.heap[b]? := by
          intro b hb
          rw [← hw1]
          simp only [Go.Sort.putRow, mapBlock, Go.Sort.ahead, Array.getElem?_modify, if_neg (Ne.symm hb)]
        have hsz1 : w1.heap.size = w.heap.size := by rw [← hw1]; simp [Go.Sort.putRow, mapBlock, Go.Sort.ahead]
        have hel : ∀ j, (Go.Sort.putCells encStr 0 q.toArray cur).toList[j]? = if j < l.length then (q.map encStr)[j]? else cur.toList[j]? := by
          intro j
          rw [Array.getElem?_toList]
          simp only [Go.Sort.putCells, Array.getElem?_mapIdx, Nat.zero_le, true_and, Nat.zero_add, Nat.sub_zero, List.size_toArray, hql]
          by_cases hj : j < l.length
          · rw [if_pos hj]
            have h2 : j < cur.size := by rw [i5]; omega
            rw [Array.getElem?_eq_getElem h2, List.getElem?_map, List.getElem?_eq_getElem (by omega)]
            simp only [Option.map_some, hj, if_true]
            rw [getElem!_pos q.toArray j (by simp; omega)]
            rfl
          · rw [if_neg hj, Array.getElem?_toList]
            cases hq2 : cur[j]? with
            | none => rfl
            | some v => simp [hj]
        have htake : (Go.Sort.putCells encStr 0 q.toArray cur).toList.take l.length = q.map encStr := by
          apply List.ext_getElem?
          intro j
          rw [List.getElem?_take]
          split
          · rename_i hj; rw [hel, if_pos hj]
          · rename_i hj; rw [List.getElem?_eq_none (by simp; omega)]
        have hlen2 : (q.map AV.str).length = l.length := by simp [hql]
        have hset : ∀ v a, Lf ρ s v a → Lf ρ (s.set bid (.arr 1 (q.map .str))) v a := fun v a lf => ⟨lf.1, LfC_set hs (fun _ _ => rfl) (Or.inl ⟨rfl, by simp [hql], rfl⟩ : (_ ∧ _ ∧ _) ∨ _) lf.2⟩
        obtain ⟨m1, L1⟩ := m.write (w' := w1) hs (b' := .arr 1 (q.map .str)) h1 (.inl ⟨rfl, by simp [hql]⟩) (by rw [← hw1]; rfl) (by rw [← hw1]; rfl) ⟨by rw [← hw1]; rfl, trivial⟩ hsz1 hoth (by
          refine .inr ⟨g0, tot, Go.Sort.putCells encStr 0 q.toArray cur, tt, h1, ⟨mk, hget, by rw [hcs]; exact hmk2⟩, by rw [hcs, i5, Nat.mul_one], by rw [hlen2]; exact i6, i7, by decide, ?_, ?_, ?_⟩
          · intro x hx
            obtain ⟨y, _, rfl⟩ := List.mem_map.1 hx
            rfl
          · intro v hv
            obtain ⟨j, hj, e⟩ := List.getElem_of_mem hv
            have h2 := hel j
            rw [List.getElem?_eq_getElem hj, e] at h2
            split at h2
            · have h3 : v ∈ q.map encStr := List.mem_of_getElem? h2.symm
              obtain ⟨z, _, rfl⟩ := List.mem_map.1 h3
              rfl
            · exact i10 v (List.mem_of_getElem? h2.symm)
          · rw [hlen2, Nat.mul_one, htake]
            exact strs_rl q)
        have sm : Same w1 (grow w1 os) := ⟨rfl, rfl, ⟨rfl, trivial⟩, by simp, fun b hb => heap_grow_old _ _ hb⟩
        exact ⟨_, .tup [], _, h, ρ, rfl, ⟨rfl, q, rfl, hp⟩, m1.same sm, L1.trans (.same sm), .tup [] [] .nil⟩
end Go.Proofs.YtkomcdohejibmaaGreatDoor
