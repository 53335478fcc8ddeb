/- Who may have a paper: office.may. Own work of this seat. -/
import Derived.Test.YtkomcdohejibmaaGreatDoorY35
import Derived.Test.YtkomcdohejibmaaGreatDoorY36
import Derived.Test.YtkomcdohejibmaaGreatDoorY22
set_option maxRecDepth 100000
set_option linter.unusedSimpArgs false
set_option linter.unusedVariables false
namespace Go.Proofs.YtkomcdohejibmaaGreatDoor
open Go Go.Av Go.RowKit

def giveP (paper : List UInt8) (d : De) : Bool := d.paper == paper && (d.kind == 3 || d.kind == 4)
def heldP (f : List De) (k : List UInt8) : Bool := !((lastL (f.filter fun d => d.person == k)).any fun d => d.kind == 4)
/-- without repeats -/
def dd : List (List UInt8) → List (List UInt8)
  | [] => []
  | x :: l => x :: (dd l).filter (fun y => y != x)
theorem dd_mem (k : List UInt8) : ∀ l : List (List UInt8), k ∈ dd l ↔ k ∈ l
  | [] => by simp [dd]
  | x :: l => by
    simp only [dd, List.mem_cons, List.mem_filter, dd_mem k l]
    by_cases h : k = x
    · simp [h]
    · simp [h]
theorem dd_nodup : ∀ l : List (List UInt8), (dd l).Nodup
  | [] => List.nodup_nil
  | x :: l => by
    simp only [dd, List.nodup_cons]
    exact ⟨by simp, (dd_nodup l).filter _⟩
theorem dd_len : ∀ l : List (List UInt8), (dd l).length ≤ l.length
  | [] => by simp [dd]
  | x :: l => by
    have := dd_len l
    have := List.length_filter_le (fun y => y != x) (dd l)
    simp only [dd, List.length_cons]
    omega
/-- a list without repeats that has the members of another, in order -/
theorem srtK_dd {ks l : List (List UInt8)} (hn : ks.Nodup) (hm : ∀ k, k ∈ ks ↔ k ∈ l) : srtK ks = srtK (dd l) :=
  srtK_of ((List.perm_ext_iff_of_nodup hn (dd_nodup l)).2 fun k => by rw [hm, dd_mem])
/-- who may have a paper, in order -/
def mayL (l : List De) (paper : List UInt8) : List (List UInt8) := (srtK (dd ((l.filter (giveP paper)).map (·.person)))).filter (heldP (l.filter (giveP paper)))
theorem mayL_len (l : List De) (paper : List UInt8) : (mayL l paper).length ≤ l.length := by
  have h1 : (mayL l paper).length ≤ (srtK (dd ((l.filter (giveP paper)).map (·.person)))).length := List.length_filter_le _ _
  have h2 := (srtK_perm (dd ((l.filter (giveP paper)).map (·.person)))).length_eq
  have h3 := dd_len ((l.filter (giveP paper)).map (·.person))
  have h4 := List.length_filter_le (giveP paper) l
  rw [List.length_map] at h3
  omega
/-- the groups are those of the persons -/
structure GEx (f : List De) (gs : List Gr) : Prop where
  ne : ∀ g ∈ gs, g.ds ≠ []
  nodup : gs.Pairwise fun x y => x.key ≠ y.key
  ds : ∀ g ∈ gs, g.ds = f.filter fun d => d.person == g.key
  all : ∀ d ∈ f, ∃ g ∈ gs, g.key = d.person
theorem GEx.push {f : List De} {gs : List Gr} (h : GEx f gs) {d : De} {n : Nat} (hk : ∀ g ∈ gs, g.key ≠ d.person) : GEx (f ++ [d]) (gs ++ [⟨d.person, n, [d]⟩]) := by
  refine ⟨fun g hg => ?_, ?_, fun g hg => ?_, fun y hy => ?_⟩
  · rcases List.mem_append.1 hg with hg | hg
    · exact h.ne g hg
    · rw [List.mem_singleton.1 hg]; simp
  · rw [List.pairwise_append]
    exact ⟨h.nodup, List.pairwise_singleton .., fun a ha b hb => by rw [List.mem_singleton.1 hb]; exact hk a ha⟩
  · rcases List.mem_append.1 hg with hg | hg
    · rw [List.filter_append, ← h.ds g hg]
      have : (d.person == g.key) = false := by simpa using Ne.symm (hk g hg)
      simp [this]
    · rw [List.mem_singleton.1 hg]
      simp only [List.filter_append]
      have : f.filter (fun y => y.person == d.person) = [] := by
        rw [List.filter_eq_nil_iff]
        intro y hy e
        obtain ⟨g', hg', e2⟩ := h.all y hy
        exact hk g' hg' (by rw [e2]; simpa using e)
      rw [this]
      simp
  · rcases List.mem_append.1 hy with hy | hy
    · obtain ⟨g, hg, e⟩ := h.all y hy
      exact ⟨g, List.mem_append_left _ hg, e⟩
    · rw [List.mem_singleton.1 hy]
      exact ⟨_, List.mem_append_right _ (List.mem_singleton.2 rfl), rfl⟩
theorem GEx.put {f : List De} {gs : List Gr} (h : GEx f gs) {d : De} {i : Nat} {g : Gr} (hi : gs[i]? = some g) (hk : g.key = d.person) : GEx (f ++ [d]) (gs.set i ⟨g.key, g.at', g.ds ++ [d]⟩) := by
  obtain ⟨hil, hgi⟩ := List.getElem?_eq_some_iff.1 hi
  have hgm : g ∈ gs := List.mem_of_getElem? hi
  have hkey : ∀ (t : Nat) (ht : t < gs.length), ((gs.set i ⟨g.key, g.at', g.ds ++ [d]⟩)[t]'(by simpa using ht)).key = gs[t].key := by
    intro t ht
    by_cases hti : t = i
    · subst hti; simp [hgi]
    · rw [List.getElem_set_ne (Ne.symm hti)]
  have key : ∀ y ∈ gs.set i ⟨g.key, g.at', g.ds ++ [d]⟩, y = ⟨g.key, g.at', g.ds ++ [d]⟩ ∨ (y ∈ gs ∧ y.key ≠ g.key) := by
    intro y hy
    obtain ⟨j, hj, rfl⟩ := List.getElem_of_mem hy
    rw [List.length_set] at hj
    by_cases hij : j = i
    · subst hij; left; simp
    · right
      rw [List.getElem_set_ne (Ne.symm hij)]
      refine ⟨List.getElem_mem _, ?_⟩
      rcases Nat.lt_or_gt_of_ne hij with hlt | hlt
      · have hx := List.pairwise_iff_getElem.1 h.nodup j i hj hil hlt
        rw [hgi] at hx
        exact hx
      · have hx := List.pairwise_iff_getElem.1 h.nodup i j hil hj hlt
        rw [hgi] at hx
        exact Ne.symm hx
  refine ⟨fun y hy => ?_, ?_, fun y hy => ?_, fun y hy => ?_⟩
  · rcases key y hy with rfl | ⟨h1, _⟩
    · simp
    · exact h.ne y h1
  · rw [List.pairwise_iff_getElem]
    intro a b ha hb hab
    rw [List.length_set] at ha hb
    rw [hkey a ha, hkey b hb]
    exact List.pairwise_iff_getElem.1 h.nodup a b ha hb hab
  · rcases key y hy with rfl | ⟨h1, h2⟩
    · simp only [List.filter_append]
      rw [h.ds g hgm]
      have : (d.person == g.key) = true := by simpa using hk.symm
      simp [this]
    · rw [List.filter_append, ← h.ds y h1]
      have : (d.person == y.key) = false := by
        rw [beq_eq_false_iff_ne, ← hk]
        exact Ne.symm h2
      simp [this]
  · have hgin : ∀ z ∈ gs, ∃ z' ∈ gs.set i ⟨g.key, g.at', g.ds ++ [d]⟩, z'.key = z.key := fun z hz => by
      obtain ⟨t, ht, rfl⟩ := List.getElem_of_mem hz
      exact ⟨_, List.getElem_mem (by simpa using ht), hkey t ht⟩
    rcases List.mem_append.1 hy with hy | hy
    · obtain ⟨z, hz, e⟩ := h.all y hy
      obtain ⟨z', hz', e2⟩ := hgin z hz
      exact ⟨z', hz', e2.trans e⟩
    · rw [List.mem_singleton.1 hy, ← hk]
      exact hgin g hgm
theorem GEx.keys {f : List De} {gs : List Gr} (h : GEx f gs) (k : List UInt8) : k ∈ gs.map (·.key) ↔ f.any (fun d => d.person == k) = true := by
  rw [List.mem_map, List.any_eq_true]
  constructor
  · rintro ⟨g, hg, rfl⟩
    obtain ⟨d, hd⟩ := List.exists_mem_of_ne_nil _ (h.ne g hg)
    rw [h.ds g hg, List.mem_filter] at hd
    exact ⟨d, hd.1, hd.2⟩
  · rintro ⟨d, hd, e⟩
    obtain ⟨g, hg, e2⟩ := h.all d hd
    exact ⟨g, hg, by rw [e2]; simpa using e⟩
theorem gM_find2 (k : List UInt8) : ∀ (gs : List Gr) (n : Nat), (mfind .string (.str k) (gM gs) n = some none ∧ ∀ g ∈ gs, g.key ≠ k) ∨ ∃ i g, mfind .string (.str k) (gM gs) n = some (some (n + i, .sl (g.at' + 1) 0 g.ds.length g.ds.length)) ∧ gs[i]? = some g ∧ g.key = k
  | [], n => .inl ⟨rfl, by simp⟩
  | g :: r, n => by
    simp only [gM, List.map_cons, mfind, keyEq]
    cases hb : k == g.key with
    | true =>
      refine .inr ⟨0, g, by simp, by simp, ?_⟩
      have : k = g.key := by simpa using hb
      exact this.symm
    | false =>
      have hne : g.key ≠ k := fun e => by rw [e] at hb; simp at hb
      rcases gM_find2 k r (n + 1) with ⟨h, h0⟩ | ⟨i, g', h1, h2, h3⟩
      · refine .inl ⟨h, fun y hy => ?_⟩
        rcases List.mem_cons.1 hy with rfl | hy
        · exact hne
        · exact h0 y hy
      · refine .inr ⟨i + 1, g', ?_, by simpa using h2, h3⟩
        simp only
        rw [show n + (i + 1) = n + 1 + i by omega]
        exact h1
theorem gF_find (k : List UInt8) : ∀ (gs : List Gr) (n : Nat), k ∈ gs.map (·.key) → ∃ i g, mfind .string (.str k) (gF gs) n = some (some (i, .fz 7 (g.ds.map deA))) ∧ g ∈ gs ∧ g.key = k
  | [], n, h => by simp at h
  | g :: r, n, h => by
    simp only [gF, List.map_cons, mfind, keyEq]
    cases hb : k == g.key with
    | true =>
      exact ⟨n, g, by simp, by simp, (by simpa using hb : k = g.key).symm⟩
    | false =>
      have hne : k ≠ g.key := by simpa using hb
      have h2 : k ∈ r.map (·.key) := by
        rw [List.map_cons] at h
        exact (List.mem_cons.1 h).resolve_left hne
      obtain ⟨i, g', h3, h4, h5⟩ := gF_find k r (n + 1) h2
      exact ⟨i, g', h3, List.mem_cons_of_mem _ h4, h5⟩
theorem keysP_ct (m : Nat) (s : List Blk) (es : List (AV × AV)) (hm : s[m]? = some (.mp es)) : Ct Tryz.prog 87 [.mp m] s (fun r s' => r = .fn (.func 138) [.ptr s.length 1 0 0] ∧ s' = s ++ [.arr 1 [.mp m]]) := by
  refine ct_intro Tryz.func87 rfl Tryz.ntmps87 hB87 (by simp) fun h ρ w => goF (N := 4) Tryz.ntmps87 300 ?_
  simp only [go_sem]
  repeat refine And.intro (by first | omega | rfl | exact .inl rfl | exact .inl trivial | (simp; done) | (simp; omega)) ?_
  exact aret [2] rfl ⟨rfl, rfl⟩
set_option maxHeartbeats 8000000 in
theorem may_pc (l : List De) (paper : List UInt8) (hl : SzL l) (hlen : l.length ≤ 1000) : Pc Tryz.prog 34 [.fz 7 (l.map deA), .str paper] (· = .fz 1 ((mayL l paper).map .str)) := by
  refine pc_intro (ct_intro Tryz.func34 rfl Tryz.ntmps34 hB34 (by simp) fun h ρ w => goB (N := 63) Tryz.ntmps34 300 ?_)
  simp only [go_sem, List.length_map]
  refine aloop (ι := Nat × List Gr × List Blk) (fun y => l.length - y.1)
    (fun y => [(14, .int .i64 y.1), (13, .int .i64 l.length), (12, .fz 7 (l.map deA)), (5, .mp 0), (1, .str paper)])
    (fun y => .mp (gM y.2.1) :: y.2.2) (fun y => y.1 ≤ l.length ∧ y.2.1.length ≤ y.1 ∧ GOk l y.1 y.2.1 y.2.2 ∧ GEx ((l.take y.1).filter (giveP paper)) y.2.1) (0, [], []) ⟨by simp, by simp, ⟨by simp, by simp, by simp, .nil⟩, ⟨by simp, .nil, by simp, by simp⟩⟩ ?_ ?_
  · refine Shift.weakS ?_ rfl
    simp only [wk, go_sem]
  rintro ⟨i, gs, B⟩ ⟨g1, g2, g3, g4⟩ J hJ
  simp only at g1 g2 g3 g4 hJ ⊢
  by_cases gi : i < l.length
  · have di : decide ((i : Int) < (l.length : Int)) = true := by simp; omega
    have p1 := deA_get l i gi
    have hdA : deA l[i] = .agg [.str l[i].st.dept, .int .i64 l[i].st.no, .fz 2 (l[i].seen.map stA), .int .i64 l[i].kind, .str l[i].paper, .str l[i].text, .str l[i].person] := rfl
    have hst := filter_step (giveP paper) l i gi
    have hno0 : giveP paper l[i] = false → _ := fun hgp => hJ (i + 1, gs, B ++ [.arr 7 [deA l[i]]]) ⟨by simp only; omega, by simp only; omega, g3.weak _, by simp only; rw [hst, hgp]; simpa using g4⟩ (by simp only; omega)
    rw [hdA] at hno0
    cases dp : l[i].paper == paper with
    | false =>
      have hno := hno0 (by unfold giveP; rw [dp]; rfl)
      refine goB (N := 63) Tryz.ntmps34 300 ?_
      simp only [go_sem, di, p1, dp, List.length_map, getD_end, set_end]
      repeat refine And.intro (by first | omega | rfl | kernel_rfl | exact .inl rfl | exact .inl trivial | (simp; done) | (simp; omega)) ?_
      rw [show (i : Int) + 1 = ((i + 1 : Nat) : Int) by omega]
      refine ainv hno (Shift.weakS ?_ rfl)
      simp only [wk, go_sem]
    | true =>
      by_cases hk : l[i].kind = 3 ∨ l[i].kind = 4
      · have hgp : giveP paper l[i] = true := by
          unfold giveP
          rw [dp]
          rcases hk with hk | hk <;> simp [hk]
        rw [hgp, if_pos rfl] at hst
        rcases gM_find2 l[i].person gs 0 with ⟨m1, m0⟩ | ⟨j, g, m1, m2, m3⟩
        · have hfin := hJ (i + 1, gs ++ [⟨l[i].person, B.length + 1, [l[i]]⟩], B ++ [.arr 7 [deA l[i]]] ++ [.arr 7 [deA l[i]]]) ⟨by simp only; omega, by simp; omega, g3.push _ _ (List.getElem_mem gi), by simp only; rw [hst]; exact g4.push m0⟩ (by simp only; omega)
          rw [← gM_push, hdA] at hfin
          simp only [List.length_cons, List.length_nil, Nat.zero_add] at hfin
          cases d3 : l[i].kind == 3 with
          | true =>
            refine goB (N := 63) Tryz.ntmps34 300 ?_
            simp only [go_sem, di, p1, dp, d3, List.length_map, getD_end, set_end]
            repeat refine And.intro (by first | omega | rfl | kernel_rfl | exact .inl rfl | exact .inl trivial | (simp; done) | (simp; omega)) ?_
            refine adrawA ((B.length+2)) [] mixed (by decide) (N := 63) Tryz.ntmps34 (by decide) 100 ?_
            simp only [go_sem, m1, List.length_map, getD_end, set_end, List.length_append, cka, isApp, appOk]
            repeat refine And.intro (by first | omega | rfl | kernel_rfl | exact .inl rfl | exact .inl trivial | (simp; done) | (simp; omega)) ?_
            refine goB (N := 63) Tryz.ntmps34 300 ?_
            simp only [go_sem]
            repeat refine And.intro (by first | omega | rfl | kernel_rfl | exact .inl rfl | exact .inl trivial | (simp; done) | (simp; omega)) ?_
            rw [show (i : Int) + 1 = ((i + 1 : Nat) : Int) by omega]
            refine ainv hfin (Shift.weakS ?_ rfl)
            simp only [wk, go_sem]
          | false =>
            have d4 : (l[i].kind == 4) = true := by simp at d3 ⊢; omega
            refine goB (N := 63) Tryz.ntmps34 300 ?_
            simp only [go_sem, di, p1, dp, d3, d4, List.length_map, getD_end, set_end]
            repeat refine And.intro (by first | omega | rfl | kernel_rfl | exact .inl rfl | exact .inl trivial | (simp; done) | (simp; omega)) ?_
            refine adrawA ((B.length+2)) [] mixed (by decide) (N := 63) Tryz.ntmps34 (by decide) 100 ?_
            simp only [go_sem, m1, List.length_map, getD_end, set_end, List.length_append, cka, isApp, appOk]
            repeat refine And.intro (by first | omega | rfl | kernel_rfl | exact .inl rfl | exact .inl trivial | (simp; done) | (simp; omega)) ?_
            refine goB (N := 63) Tryz.ntmps34 300 ?_
            simp only [go_sem]
            repeat refine And.intro (by first | omega | rfl | kernel_rfl | exact .inl rfl | exact .inl trivial | (simp; done) | (simp; omega)) ?_
            rw [show (i : Int) + 1 = ((i + 1 : Nat) : Int) by omega]
            refine ainv hfin (Shift.weakS ?_ rfl)
            simp only [wk, go_sem]
        · have hlt := g3.lt (List.mem_of_getElem? m2)
          have hgl := g3.len g (List.mem_of_getElem? m2)
          have hfin := hJ (i + 1, gs.set j ⟨g.key, g.at', g.ds ++ [l[i]]⟩, (B ++ [Blk.arr 7 [deA l[i]]]).set g.at' (Blk.arr 7 ((g.ds ++ [l[i]]).map deA))) ⟨by simp only; omega, by simp; omega, g3.put _ m2 (List.getElem_mem gi), by simp only; rw [hst]; exact g4.put m2 m3⟩ (by simp only; omega)
          rw [← gM_set] at hfin
          simp only [List.length_append, List.length_cons, List.length_nil, List.map_append, List.map_cons, List.map_nil, Nat.zero_add, hdA, m3] at hfin
          have b0 := g3.blk g (List.mem_of_getElem? m2)
          have b1 : ∀ x : Blk, (B ++ [x]).getD g.at' .dead = .arr 7 (g.ds.map deA) := fun x => by
            rw [List.getD_eq_getElem?_getD, List.getElem?_append_left hlt, b0]; rfl
          rw [Nat.zero_add] at m1
          cases d3 : l[i].kind == 3 with
          | true =>
            refine goB (N := 63) Tryz.ntmps34 300 ?_
            simp only [go_sem, di, p1, dp, d3, List.length_map, getD_end, set_end]
            repeat refine And.intro (by first | omega | rfl | kernel_rfl | exact .inl rfl | exact .inl trivial | (simp; done) | (simp; omega)) ?_
            refine adrawA ((g.at'+1)) [] mixed (by decide) (N := 63) Tryz.ntmps34 (by decide) 100 ?_
            simp only [go_sem, m1, b1, List.length_map, getD_end, set_end, List.length_append, cka, isApp, appOk]
            repeat refine And.intro (by first | omega | rfl | kernel_rfl | exact .inl rfl | exact .inl trivial | (simp; done) | (simp; omega)) ?_
            refine goB (N := 63) Tryz.ntmps34 300 ?_
            simp only [go_sem]
            repeat refine And.intro (by first | omega | rfl | kernel_rfl | exact .inl rfl | exact .inl trivial | (simp; done) | (simp; omega)) ?_
            rw [show (i : Int) + 1 = ((i + 1 : Nat) : Int) by omega]
            refine ainv hfin (Shift.weakS ?_ rfl)
            simp only [wk, go_sem]
          | false =>
            have d4 : (l[i].kind == 4) = true := by simp at d3 ⊢; omega
            refine goB (N := 63) Tryz.ntmps34 300 ?_
            simp only [go_sem, di, p1, dp, d3, d4, List.length_map, getD_end, set_end]
            repeat refine And.intro (by first | omega | rfl | kernel_rfl | exact .inl rfl | exact .inl trivial | (simp; done) | (simp; omega)) ?_
            refine adrawA ((g.at'+1)) [] mixed (by decide) (N := 63) Tryz.ntmps34 (by decide) 100 ?_
            simp only [go_sem, m1, b1, List.length_map, getD_end, set_end, List.length_append, cka, isApp, appOk]
            repeat refine And.intro (by first | omega | rfl | kernel_rfl | exact .inl rfl | exact .inl trivial | (simp; done) | (simp; omega)) ?_
            refine goB (N := 63) Tryz.ntmps34 300 ?_
            simp only [go_sem]
            repeat refine And.intro (by first | omega | rfl | kernel_rfl | exact .inl rfl | exact .inl trivial | (simp; done) | (simp; omega)) ?_
            rw [show (i : Int) + 1 = ((i + 1 : Nat) : Int) by omega]
            refine ainv hfin (Shift.weakS ?_ rfl)
            simp only [wk, go_sem]
      · have d3 : (l[i].kind == 3) = false := by simp; omega
        have d4 : (l[i].kind == 4) = false := by simp; omega
        have hno := hno0 (by unfold giveP; rw [d3, d4]; simp)
        refine goB (N := 63) Tryz.ntmps34 300 ?_
        simp only [go_sem, di, p1, dp, d3, d4, List.length_map, getD_end, set_end]
        repeat refine And.intro (by first | omega | rfl | kernel_rfl | exact .inl rfl | exact .inl trivial | (simp; done) | (simp; omega)) ?_
        rw [show (i : Int) + 1 = ((i + 1 : Nat) : Int) by omega]
        refine ainv hno (Shift.weakS ?_ rfl)
        simp only [wk, go_sem]
  have di : decide ((i : Int) < (l.length : Int)) = false := by simp; omega
  clear hJ
  have hi : i = l.length := by omega
  rw [hi, List.take_length] at g4
  refine AWp.shift (freeze_all (by simp) _ (fun _ _ => rfl) (by simp only [wkl, lowV, lowC, Av.get, go_sem]) gs [] B g3.blk g3.ne) ?_
  rw [List.nil_append]
  have hgk : (gF gs).map (·.1) = (gs.map (·.key)).map .str := by simp [gF]
  have hkl : ∀ k ∈ gs.map (·.key), k.length ≤ 1000000 := fun k hk => by
    rw [g4.keys, List.any_eq_true] at hk
    obtain ⟨d, hd, e⟩ := hk
    have h1 := (hl.all d (List.mem_filter.1 hd).1).person
    have h2 : d.person = k := by simpa using e
    rw [← h2]
    omega
  have hkc := keysP_ct 0 [.mp (gF gs)] _ rfl
  have hsc := sorted_ct givesP (enters_of Tryz.func138 (by kernel_rfl) rfl) (s := [.mp (gF gs), .arr 1 [.mp 0]]) (j := 1) (m := 0) (gs.map (·.key)) rfl rfl hgk (by rw [List.length_map]; omega) hkl
  refine goB (N := 63) Tryz.ntmps34 300 ?_
  simp only [go_sem, di]
  refine acall (hkc) (N := 63) Tryz.ntmps34 rfl ?_
  rintro _ _ ⟨rfl, rfl⟩
  refine goB (N := 63) Tryz.ntmps34 300 ?_
  simp only [go_sem]
  refine acall (hsc) (N := 63) Tryz.ntmps34 rfl ?_
  rintro _ _ ⟨rfl, rfl⟩
  have hqm : srtK (gs.map (·.key)) = srtK (dd ((l.filter (giveP paper)).map (·.person))) := srtK_dd (List.pairwise_map.2 g4.nodup) fun k => by
    rw [g4.keys, List.any_eq_true, List.mem_map]
    exact ⟨fun ⟨d, h1, h2⟩ => ⟨d, h1, by simpa using h2⟩, fun ⟨d, h1, h2⟩ => ⟨d, h1, by simp [h2]⟩⟩
  have hq : ∀ k, k ∈ srtK (gs.map (·.key)) ↔ k ∈ gs.map (·.key) := fun k => (srtK_perm _).mem_iff
  have hql := (srtK_perm (gs.map (·.key))).length_eq
  rw [List.length_map] at hql
  have hmay : mayL l paper = (srtK (gs.map (·.key))).filter (heldP (l.filter (giveP paper))) := by rw [hqm]; rfl
  rw [hmay]
  generalize srtK (gs.map (·.key)) = q at *
  have hq1000 : q.length ≤ 1000 := by omega
  refine goB (N := 63) Tryz.ntmps34 300 ?_
  simp only [go_sem, List.length_map]
  refine aloop (ι := Nat) (fun i => q.length - i)
    (fun i => [(47, .int .i64 i), (46, .int .i64 q.length), (45, .fz 1 (q.map .str)), (8, .sl 1 0 ((q.take i).filter (heldP (l.filter (giveP paper)))).length ((q.take i).filter (heldP (l.filter (giveP paper)))).length), (5, .mp 0)])
    (fun i => [.mp (gF gs), .arr 1 (((q.take i).filter (heldP (l.filter (giveP paper)))).map .str)]) (fun i => i ≤ q.length) 0 (by simp) ?_ ?_
  · refine Shift.trans (Shift.low 1 (e' := [(47, .int .i64 0), (46, .int .i64 q.length), (45, .fz 1 (q.map .str)), (8, .raw (.slice none 0 0)), (5, .mp 0)]) (by simp) (by simp) ?_ ?_) (Shift.trans (Shift.nilsl 8 1 rfl) (Shift.weakS (s := [.mp (gF gs), .arr 1 []]) ?_ rfl))
    · simp only [List.take_succ_cons, List.take_zero, List.all_cons, List.all_nil, Bool.and_true]
      show (gF gs).all _ = true
      rw [gF, List.all_map, List.all_eq_true]
      intro x hx
      rfl
    · simp only [wkl, lowV, lowC, Av.get, go_sem]
    · simp only [wk, go_sem, List.take_zero, List.filter_nil, List.length_nil]
  intro i g1 J hJ
  by_cases gi : i < q.length
  · have di : decide ((i : Int) < (q.length : Int)) = true := by simp; omega
    have p1 := dstr_get gi
    obtain ⟨ix, g, m1, m2, m3⟩ := gF_find q[i] gs 0 ((hq _).1 (List.getElem_mem gi))
    have hds := g4.ds g m2
    rw [m3] at hds
    have hszg : Sz g.ds := ⟨by have := g3.len g m2; omega, fun d hd => hl.sz.2 d (g3.sub g m2 d hd)⟩
    have hla := last_pc g.ds hszg
    have hha := anyDe_pc 89 [] rfl (fun d => d.kind == 4) (lastL g.ds) (by have := (hszg.filter (lastP g.ds)).1; unfold lastL; omega) fun x _ => mayFn_pc x
    have hst := filter_step (heldP (l.filter (giveP paper))) q i gi
    have hfin := hJ (i + 1) (by omega) (by omega)
    rw [hst] at hfin
    have hol : ((q.take i).filter (heldP (l.filter (giveP paper)))).length ≤ i := Nat.le_trans (List.length_filter_le _ _) (by simp; omega)
    generalize (q.take i).filter (heldP (l.filter (giveP paper))) = o at *
    refine goB (N := 63) Tryz.ntmps34 300 ?_
    simp only [go_sem, di, p1, m1, List.length_map]
    repeat refine And.intro (by first | omega | rfl | kernel_rfl | (simp; done) | (simp; omega)) ?_
    refine pcall1 (hla) rfl (N := 63) Tryz.ntmps34 rfl (goB (N := 63) Tryz.ntmps34 300 ?_)
    simp only [go_sem]
    refine pcall1 (hha) rfl (N := 63) Tryz.ntmps34 rfl (goB (N := 63) Tryz.ntmps34 300 ?_)
    cases hb : (lastL g.ds).any (fun d => d.kind == 4) with
    | true =>
      have hh : heldP (l.filter (giveP paper)) q[i] = false := by unfold heldP; rw [← hds, hb]; rfl
      rw [hh] at hfin
      simp only [Bool.false_eq_true, if_false, List.append_nil] at hfin
      simp only [go_sem]
      repeat refine And.intro (by first | omega | rfl | exact .inl rfl | exact .inl trivial | (simp; done) | (simp; omega)) ?_
      rw [show (i : Int) + 1 = ((i + 1 : Nat) : Int) by omega]
      refine ainv hfin (Shift.weakS ?_ rfl)
      simp only [wk, go_sem]
    | false =>
      have hh : heldP (l.filter (giveP paper)) q[i] = true := by unfold heldP; rw [← hds, hb]; rfl
      rw [hh] at hfin
      simp only [if_true, List.length_append, List.length_cons, List.length_nil, List.map_append, List.map_cons, List.map_nil, Nat.zero_add] at hfin
      simp only [go_sem, List.length_map]
      repeat refine And.intro (by first | omega | rfl | exact .inl rfl | exact .inl trivial | (simp; done) | (simp; omega)) ?_
      rw [show (i : Int) + 1 = ((i + 1 : Nat) : Int) by omega]
      refine ainv hfin (Shift.weakS ?_ rfl)
      simp only [wk, go_sem]
  have di : decide ((i : Int) < (q.length : Int)) = false := by simp; omega
  have hi2 : i = q.length := by omega
  subst hi2
  rw [List.take_length]
  clear hJ
  obtain ⟨o, ho⟩ : ∃ o, q.filter (heldP (l.filter (giveP paper))) = o := ⟨_, rfl⟩
  rw [ho]
  have hol : o.length ≤ q.length := by rw [← ho]; exact List.length_filter_le _ _
  refine goB (N := 63) Tryz.ntmps34 300 ?_
  simp only [go_sem, di]
  exact ARet.shift (Shift.freeze 4 (id := 1) (l := o.map .str) rfl rfl (by simp) (Nat.le_refl _) (strs_frz _)) (aret [4] rfl ⟨by simp only [resV, Av.get, Av.put, beq_self_eq_true, cond_true, List.drop_zero, take_map], rfl⟩)
end Go.Proofs.YtkomcdohejibmaaGreatDoor
