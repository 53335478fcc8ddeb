/- take.Assemble. Own work of this seat. -/
import Derived.Test.YtkfpiadgjbhcpaaGreatDoorA47
import Derived.Test.YtkfpiadgjbhcpaaGreatDoorA48
import Derived.Test.YtkfpiadgjbhcpaaGreatDoorA22
set_option maxRecDepth 100000
set_option linter.unusedSimpArgs false
set_option linter.unusedVariables false
namespace Go.Proofs.YtkfpiadgjbhcpaaGreatDoor
open Go Go.Av Go.RowKit

/-- the best choice of a scene -/
def bestC (y : Sc) (l : List Tk) : List Pp' := chosenF none (stepsN (rowsU y l))
theorem paras_le {x : Sr} (hx : StoryOk x) {i : Nat} (hi : i < x.scenes.length) : x.scenes[i].paras.length ≤ 60 := (hx.all i hi).len
set_option maxHeartbeats 8000000 in
theorem assemble_pch {S : Std} (hS : LibR S) (x : Sr) (r : Rl) (rs : List Rl) (l : List Tk) (hf : FilmOk x r rs l) (i : Nat) (hi : i < x.scenes.length) :
    PcH Tryz.prog S 8 [srA x, .fz 5 ((r :: rs).map rlA), .fz 9 (l.map tkA), .str x.scenes[i].no] (fun v =>
      ((∀ z ∈ rowsU x.scenes[i] l, z.2 ≠ []) → v = .tup [.fz 3 (clipsA (runsF (bestC x.scenes[i] l))), .int .i64 (joinsN none (bestC x.scenes[i] l)), .int .i64 0]) ∧
      ((¬ ∀ z ∈ rowsU x.scenes[i] l, z.2 ≠ []) → v = .tup [.fz 3 [], .int .i64 0, .int .i64 8])) := by
  have hx := hf.story
  have hlen := hx.len
  have hll := hf.len
  have hgd : ∀ t ∈ l, t.good = true := fun t ht => (hf.takes t ht).good
  have h1 := checkTakes_pch hS x r rs l hf
  have h3 := scenesOf_ct0 x hx
  have h4 := covering_ct0 x r rs l hf
  have m0 := scMF_find (k := x.scenes[i].no) x.scenes 0 0 i hi rfl (fun j hj e => by have := hx.inj (by omega) hi e; omega)
  rw [Nat.zero_add] at m0
  have hget := scA_get x.scenes i hi
  have h5 := fun (G : Nat → List Gq) (T : List Blk) (hC : CovI x.scenes G T) (hp : ∀ i (h : i < x.scenes.length) p, partsG (G i) p = partsN l x.scenes[i].no p l.length) =>
    assembled_ct x.scenes[i] (paras_le hx hi) l hgd (by omega) (G i) (i + 1 + 1) T (cov_grp hf hC hp hi)
  have hrl := refs_len x.scenes.length
  have hrg := refs_get x.scenes.length i hi
  obtain ⟨G0, T0, hC0, hp0⟩ := cov_ex hf
  simp only [srA, List.map_cons, rlA] at h1 h3 h4 h5 ⊢
  refine pch_intro (cth_intro Tryz.func8 rfl Tryz.ntmps8 hB8 (by simp) fun h ρ w hg => goB (N := 53) Tryz.ntmps8 300 ?_)
  simp only [go_sem]
  refine pcallH1 hg (h1) rfl (N := 53) Tryz.ntmps8 rfl (goB (N := 53) Tryz.ntmps8 300 ?_)
  simp only [go_sem]
  refine acall (h3) (N := 53) Tryz.ntmps8 rfl ?_
  rintro _ _ ⟨rfl, rfl⟩
  refine goB (N := 53) Tryz.ntmps8 300 ?_
  simp only [go_sem, m0, List.length_map]
  repeat refine And.intro (by first | omega | (simp; done) | (simp; omega)) ?_
  refine AWp.shift (Shift.low 0 (e' := [(12, .int .i64 i), (8, .raw (.slice none 0 0)), (4, .pin 2 [.agg [.str x.title, .fz 5 (x.scenes.map scA)]] 0 0), (2, .fz 9 (l.map tkA))]) (by simp) (by simp) rfl ?_) ?_
  · simp only [wkl, lowV, lowC, Av.get, go_sem]
  rw [List.take_zero]
  refine adrawD [7, 12] [9, 10] 99 [] mixed (by decide) (N := 53) Tryz.ntmps8 (by decide) 100 ?_
  simp only [go_sem, Go.Av.dxd, Go.Av.dxdc, ↓Go.Av.dbrd_true, ↓Go.Av.dbrd_false, Go.Av.dbrd, hget, List.length_map]
  repeat refine And.intro (by first | omega | rfl | (simp; done) | (simp; omega)) ?_
  refine icc h4 ⟨_, _, G0, rfl, hC0, hp0⟩ ?_
  rintro _ T ⟨G, rfl, hC, hp⟩
  refine ⟨Agr.push' (Nat.zero_le _) T, ?_⟩
  have k1 := gd_of hC.h1
  simp only [go_sem, Go.Av.dxd, Go.Av.dxdc, ↓Go.Av.dbrd_true, ↓Go.Av.dbrd_false, Go.Av.dbrd, hget, k1, hrl, hrg, List.length_map]
  repeat refine And.intro (by first | omega | rfl | (simp; done) | (simp; omega)) ?_
  have h5' := h5 G T hC hp
  simp only [scA] at h5'
  rw [rows_eq hf hp hi] at h5'
  by_cases hne : ∀ z ∈ rowsU x.scenes[i] l, z.2 ≠ []
  · refine icc h5' ⟨_, _, rfl, fun _ => rfl, fun h => absurd hne h⟩ ?_
    rintro v s' ⟨rfl, hv, _⟩
    rw [hv hne]
    refine ⟨Agr.rfl', ?_⟩
    simp only [go_sem, Go.Av.dxd, Go.Av.dxdc, ↓Go.Av.dbrd_true, ↓Go.Av.dbrd_false, Go.Av.dbrd]
    refine goB (N := 53) Tryz.ntmps8 300 ?_
    simp only [go_sem]
    exact aret [8, 9, 10] rfl ⟨fun _ => rfl, fun h => absurd hne h, rfl⟩
  · refine icc h5' ⟨_, _, rfl, fun h => absurd h hne, fun _ => rfl⟩ ?_
    rintro v s' ⟨rfl, _, hv⟩
    rw [hv hne]
    refine ⟨Agr.rfl', ?_⟩
    simp only [go_sem, Go.Av.dxd, Go.Av.dxdc, ↓Go.Av.dbrd_true, ↓Go.Av.dbrd_false, Go.Av.dbrd]
    refine goB (N := 53) Tryz.ntmps8 300 ?_
    simp only [go_sem]
    refine ARet.shift (Shift.nilfz 8 3 rfl) ?_
    simp only [go_sem]
    exact aret [8, 9, 10] rfl ⟨fun h => absurd h hne, fun _ => rfl, rfl⟩
end Go.Proofs.YtkfpiadgjbhcpaaGreatDoor
/- The least number of joins, told anew. Own work of this seat. -/
set_option maxRecDepth 100000
set_option linter.unusedSimpArgs false
set_option linter.unusedVariables false
namespace Go.Proofs.YtkfpiadgjbhcpaaGreatDoor
open Go Go.Av Go.RowKit

theorem min_if (a b : Int) : min a b = if b < a then b else a := by split <;> omega
theorem idxP_find {α : Type} {p : α → Bool} {l : List α} : (idxP p l < 0 ∧ l.find? p = none) ∨ ∃ i, ∃ (h : i < l.length), idxP p l = (i : Int) ∧ l.find? p = some l[i] := by
  unfold idxP
  cases hq : l.findIdx? p with
  | none =>
    left
    rw [List.findIdx?_eq_none_iff] at hq
    exact ⟨by decide, List.find?_eq_none.2 fun x hx => by simp [hq x hx]⟩
  | some i =>
    right
    obtain ⟨h1, h2, h3⟩ := List.findIdx?_eq_some_iff_getElem.1 hq
    refine ⟨i, h1, rfl, ?_⟩
    rw [List.find?_eq_some_iff_getElem]
    exact ⟨h2, i, h1, rfl, fun j hj => by simpa using h3 j hj⟩

theorem fewFn1_pc (c : Cv) (ks : List Nat) (k : Nat) (hk : k < ks.length) : Pc Tryz.prog 45 [cvA c, .pin 1 [.fz 1 (natA ks)] 0 0, .pin 1 [.int .i64 k] 0 0] (· = .bool (c.para == (ks[k] : Nat))) := by
  have hg := natA_get ks k hk
  simp only [cvA]
  refine pc_intro (ct_intro Tryz.func45 rfl Tryz.ntmps45 hB45 (by simp) fun h ρ w => goB (N := 12) Tryz.ntmps45 300 ?_)
  simp only [go_sem]
  refine adraw [] mixed (by decide) (N := 12) Tryz.ntmps45 (by decide) 100 ?_
  simp only [go_sem, hg, natA_len]
  repeat refine And.intro (by first | omega | (simp; done) | (simp; omega)) ?_
  refine goB (N := 12) Tryz.ntmps45 300 ?_
  simp only [go_sem]
  exact aret [4] rfl ⟨rfl, rfl⟩
theorem fewFn2_pc (c : Cv) (ks : List Nat) (k : Nat) (h0 : 0 < k) (hkb : k ≤ 1000) (hk : k - 1 < ks.length) : Pc Tryz.prog 46 [cvA c, .pin 1 [.fz 1 (natA ks)] 0 0, .pin 1 [.int .i64 k] 0 0] (· = .bool (c.para == (ks[k - 1] : Nat))) := by
  have hg := natA_get ks (k - 1) hk
  have hj1 : ((k : Int) - 1).toNat = k - 1 := by omega
  simp only [cvA]
  refine pc_intro (ct_intro Tryz.func46 rfl Tryz.ntmps46 hB46 (by simp) fun h ρ w => goB (N := 13) Tryz.ntmps46 300 ?_)
  simp only [go_sem]
  refine adraw [] mixed (by decide) (N := 13) Tryz.ntmps46 (by decide) 100 ?_
  simp only [go_sem, hj1, hg, natA_len]
  repeat refine And.intro (by first | omega | (simp; done) | (simp; omega)) ?_
  refine goB (N := 13) Tryz.ntmps46 300 ?_
  simp only [go_sem]
  exact aret [4] rfl ⟨rfl, rfl⟩

/-- who comes before paragraph k -/
def LastOk (l : List Tk) (no : List UInt8) (ks : List Nat) (k : Nat) (last : Int) : Option Pp' → Prop
  | none => k = 0 ∧ last = -1
  | some q => 0 < k ∧ last = q.take ∧ ∃ (h : k - 1 < ks.length), q ∈ partsU l no (ks[k - 1] : Nat) l.length
def fewU (l : List Tk) (no : List UInt8) (ks : List Nat) : Option Pp' → Nat → Int := fun lp k => fewN lp ((ks.drop k).map fun (k : Nat) => partsU l no k l.length)
theorem fewN_low : ∀ (r : List (List Pp')) (last : Option Pp'), r.length ≤ 1000000 → 0 ≤ fewN last r ∧ fewN last r ≤ 1073741824
  | [], _, _ => by simp [fewN]
  | ps :: r, last, hl => by
    simp only [List.length_cons] at hl
    obtain ⟨h1, h2, h3⟩ := foldl_min (fun p => joinN last p + fewN (some p) r) ps 1073741824
    simp only [fewN]
    refine ⟨?_, h2⟩
    rcases h1 with h1 | ⟨x, hx, h1⟩
    · rw [h1]; omega
    · rw [h1]; have := fewN_low r (some x) (by omega); have := joinN_le last x; omega
set_option maxHeartbeats 4000000 in
theorem fewest_pc (l : List Tk) (hg : ∀ t ∈ l, t.good = true) (hcl : ∀ t ∈ l, t.covers.length ≤ 60) (hll : l.length ≤ 15) (no : List UInt8) (ks : List Nat) (hkl : ks.length ≤ 60) :
    ∀ (d k : Nat) (last : Int) (lp : Option Pp'), k + d = ks.length → LastOk l no ks k last lp → Pc Tryz.prog 13 [.fz 9 (l.map tkA), .fz 1 (natA ks), .str no, .int .i64 last, .int .i64 k] (· = .int .i64 (fewU l no ks lp k))
  | 0, k, last, lp, hd, hlp => by
    have e : ((k : Int) == (ks.length : Int)) = true := by simp; omega
    have hr : fewU l no ks lp k = 0 := by unfold fewU; rw [List.drop_eq_nil_of_le (by omega)]; rfl
    rw [hr]
    refine pc_intro (ct_intro Tryz.func13 rfl Tryz.ntmps13 hB13 (by simp) fun h ρ w => goB (N := 86) Tryz.ntmps13 300 ?_)
    simp only [go_sem, natA_len, e]
    exact aret [10] rfl ⟨rfl, rfl⟩
  | d + 1, k, last, lp, hd, hlp => by
    have hk : k < ks.length := by omega
    have e : ((k : Int) == (ks.length : Int)) = false := by simp; omega
    have hdr : ks.drop k = ks[k] :: ks.drop (k + 1) := List.drop_eq_getElem_cons hk
    have hre : fewU l no ks lp k = (partsU l no (ks[k] : Nat) l.length).foldl (fun b p => min b (joinN lp p + fewU l no ks (some p) (k + 1))) 1073741824 := by
      unfold fewU
      rw [hdr, List.map_cons, fewN]
    rw [hre]
    have ih := fun (q : Pp') (hq : q ∈ partsU l no (ks[k] : Nat) l.length) => fewest_pc l hg hcl hll no ks hkl d (k + 1) (q.take : Int) (some q) (by omega) ⟨by omega, rfl, by simpa using hk, by simpa using hq⟩
    have hfl : ∀ lp k, 0 ≤ fewU l no ks lp k ∧ fewU l no ks lp k ≤ 1073741824 := fun lp k => fewN_low _ _ (by simp; omega)
    refine pc_intro (ct_intro Tryz.func13 rfl Tryz.ntmps13 hB13 (by simp) fun h ρ w => goB (N := 86) Tryz.ntmps13 300 ?_)
    simp only [go_sem, natA_len, e, List.length_map]
    refine aloop (ι := Nat) (fun y => l.length - y)
      (fun y => [(23, .int .i64 y), (22, .int .i64 l.length), (21, .fz 9 (l.map tkA)), (11, .int .i64 ((partsU l no (ks[k] : Nat) y).foldl (fun b p => min b (joinN lp p + fewU l no ks (some p) (k + 1))) 1073741824)), (6, .pin 1 [.fz 1 (natA ks)] 0 0), (9, .pin 1 [.int .i64 k] 0 0), (0, .fz 9 (l.map tkA)), (2, .str no), (3, .int .i64 last)])
      (fun y => []) (fun y => y ≤ l.length) 0 (by simp) ?_ ?_
    · refine Shift.weakS ?_ rfl
      simp only [wk, go_sem, List.length_map, partsU, List.foldl_nil]
    intro j g1 J hJ
    by_cases gj : j < l.length
    · have dj : decide ((j : Int) < (l.length : Int)) = true := by simp; omega
      have hget := tkA_get l j gj
      have hgood := hg _ (List.getElem_mem gj)
      have hcv := hcl _ (List.getElem_mem gj)
      have hsu := partsU_succ l no (ks[k] : Nat) j gj
      have hfin := hJ (j + 1) (by omega) (by omega)
      rw [hsu, List.foldl_append] at hfin
      have hi1 := idxCv_pc 45 [.pin 1 [.fz 1 (natA ks)] 0 0, .pin 1 [.int .i64 k] 0 0] rfl (fun c => c.para == (ks[k] : Nat)) l[j].covers (by omega) (fun c _ => fewFn1_pc c ks k hk)
      have hjl : l[j]? = some l[j] := List.getElem?_eq_getElem gj
      generalize l[j] = t at *
      have hlow : ∀ c : Cx, True := fun _ => trivial
      rcases idxP_find (p := fun c : Cv => c.para == (ks[k] : Nat)) (l := t.covers) with ⟨hx, hf⟩ | ⟨ci, hci, hx, hf⟩
      · have hpu : partU no (ks[k] : Nat) j t = [] := by simp only [partU, hf]; split <;> rfl
        rw [hpu, List.foldl_nil] at hfin
        generalize idxP (fun c : Cv => c.para == (ks[k] : Nat)) t.covers = ix at *
        have dx : decide (ix < 0) = true := by simpa using hx
        refine goB (N := 86) Tryz.ntmps13 300 ?_
        simp only [go_sem, dj, hget, List.length_map]
        repeat refine And.intro (by first | omega | (simp; done) | (simp; omega)) ?_
        refine pcall1 (hi1) rfl (N := 86) Tryz.ntmps13 rfl (goB (N := 86) Tryz.ntmps13 300 ?_)
        simp only [go_sem, dx]
        repeat refine And.intro (by first | omega | (simp; done) | (simp; omega)) ?_
        rw [show (j : Int) + 1 = ((j + 1 : Nat) : Int) by omega]
        refine ainv hfin (Shift.low 0 (by simp) (by simp) ?_ ?_)
        · simp only [List.take_zero, List.all_nil]
        · simp only [wkl, lowV, lowC, Av.get, go_sem, min_if]
      · rw [hx] at hi1
        have dx : decide ((ci : Int) < 0) = false := by simp
        cases hs : t.scene == no with
        | false =>
          have hs' : (t.scene != no) = true := by rw [bne, hs]; rfl
          have hpu : partU no (ks[k] : Nat) j t = [] := by simp [partU, hs]
          rw [hpu, List.foldl_nil] at hfin
          refine goB (N := 86) Tryz.ntmps13 300 ?_
          simp only [go_sem, dj, hget, List.length_map]
          repeat refine And.intro (by first | omega | (simp; done) | (simp; omega)) ?_
          refine pcall1 (hi1) rfl (N := 86) Tryz.ntmps13 rfl (goB (N := 86) Tryz.ntmps13 300 ?_)
          simp only [go_sem, dx, hgood, hs']
          repeat refine And.intro (by first | omega | (simp; done) | (simp; omega)) ?_
          rw [show (j : Int) + 1 = ((j + 1 : Nat) : Int) by omega]
          refine ainv hfin (Shift.low 0 (by simp) (by simp) ?_ ?_)
          · simp only [List.take_zero, List.all_nil]
          · simp only [wkl, lowV, lowC, Av.get, go_sem, min_if]
        | true =>
          have hs' : (t.scene != no) = false := by rw [bne, hs]; rfl
          have hpu : partU no (ks[k] : Nat) j t = [⟨j, t.covers[ci]⟩] := by simp [partU, hs, hf]
          rw [hpu, List.foldl_cons, List.foldl_nil] at hfin
          have hqm : (⟨j, t.covers[ci]⟩ : Pp') ∈ partsU l no (ks[k] : Nat) l.length := by
            refine partsU_mono (show j + 1 ≤ l.length by omega) _ ?_
            simp only [partsU, hjl, hpu, List.mem_append, List.mem_singleton, or_true]
          have hih := ih _ hqm
          have hgc := cvA_get t.covers ci hci
          have hf1 := hfl (some ⟨j, t.covers[ci]⟩) (k + 1)
          obtain ⟨F, hF⟩ : ∃ F, F = fewU l no ks (some ⟨j, t.covers[ci]⟩) (k + 1) := ⟨_, rfl⟩
          rw [← hF] at hfin hih hf1
          rw [show ((k + 1 : Nat) : Int) = (k : Int) + 1 by omega] at hih
          simp only at hih
          obtain ⟨B, hB⟩ : ∃ B, B = (partsU l no (ks[k] : Nat) j).foldl (fun b p => min b (joinN lp p + fewU l no ks (some p) (k + 1))) 1073741824 := ⟨_, rfl⟩
          rw [← hB] at hfin ⊢
          cases lp with
          | none =>
            obtain ⟨hk0, hl1⟩ := hlp
            have dl : decide (last ≥ 0) = false := by simp; omega
            simp only [joinN] at hfin
            refine goB (N := 86) Tryz.ntmps13 300 ?_
            simp only [go_sem, dj, hget, List.length_map]
            repeat refine And.intro (by first | omega | (simp; done) | (simp; omega)) ?_
            refine pcall1 (hi1) rfl (N := 86) Tryz.ntmps13 rfl (goB (N := 86) Tryz.ntmps13 300 ?_)
            simp only [go_sem, dx, hgood, hs', dl]
            repeat refine And.intro (by first | omega | (simp; done) | (simp; omega)) ?_
            refine pcall1 (hih) rfl (N := 86) Tryz.ntmps13 rfl (goB (N := 86) Tryz.ntmps13 300 ?_)
            simp only [go_sem]
            repeat refine And.intro (by first | omega | (simp; done) | (simp; omega)) ?_
            rw [show (j : Int) + 1 = ((j + 1 : Nat) : Int) by omega]
            refine ainv hfin (Shift.low 0 (by simp) (by simp) ?_ ?_)
            · simp only [List.take_zero, List.all_nil]
            · simp only [wkl, lowV, lowC, Av.get, go_sem, min_if]
          | some q =>
            obtain ⟨hk0, hl1, hkm, hqp⟩ := hlp
            have dl : decide (last ≥ 0) = true := by simp; omega
            obtain ⟨hq1, t', ht', hts, htf⟩ := partsU_mem hqp
            have hi2 := idxCv_pc 46 [.pin 1 [.fz 1 (natA ks)] 0 0, .pin 1 [.int .i64 k] 0 0] rfl (fun c => c.para == (ks[k - 1] : Nat)) t.covers (by omega) (fun c _ => fewFn2_pc c ks k hk0 (by omega) hkm)
            have hlt : ((q.take : Int) == (j : Int)) = (q.take == j) := nat_beq _ _
            cases hqj : q.take == j with
            | false =>
              have hfl0 : fol q ⟨j, t.covers[ci]⟩ = false := by simp only [fol, hqj, Bool.false_and]
              have dlt : (last == (j : Int)) = false := by rw [hl1, hlt]; exact hqj
              simp only [joinN, hfl0, Bool.false_eq_true, if_false] at hfin
              refine goB (N := 86) Tryz.ntmps13 300 ?_
              simp only [go_sem, dj, hget, List.length_map]
              repeat refine And.intro (by first | omega | (simp; done) | (simp; omega)) ?_
              refine pcall1 (hi1) rfl (N := 86) Tryz.ntmps13 rfl (goB (N := 86) Tryz.ntmps13 300 ?_)
              simp only [go_sem, dx, hgood, hs', dl]
              refine pcall1 (hi2) rfl (N := 86) Tryz.ntmps13 rfl (goB (N := 86) Tryz.ntmps13 300 ?_)
              simp only [go_sem]
              refine adraw [] mixed (by decide) (N := 86) Tryz.ntmps13 (by decide) 100 ?_
              simp only [go_sem, dlt]
              repeat refine And.intro (by first | omega | (simp; done) | (simp; omega)) ?_
              refine goB (N := 86) Tryz.ntmps13 300 ?_
              simp only [go_sem]
              repeat refine And.intro (by first | omega | (simp; done) | (simp; omega)) ?_
              refine pcall1 (hih) rfl (N := 86) Tryz.ntmps13 rfl (goB (N := 86) Tryz.ntmps13 300 ?_)
              simp only [go_sem]
              repeat refine And.intro (by first | omega | (simp; done) | (simp; omega)) ?_
              rw [show (j : Int) + 1 = ((j + 1 : Nat) : Int) by omega]
              refine ainv hfin (Shift.low 0 (by simp) (by simp) ?_ ?_)
              · simp only [List.take_zero, List.all_nil]
              · simp only [wkl, lowV, lowC, Av.get, go_sem, min_if]
            | true =>
              have hqe : q.take = j := by simpa using hqj
              rw [hqe, hjl] at ht'
              cases ht'
              have dlt : (last == (j : Int)) = true := by rw [hl1, hlt]; exact hqj
              obtain ⟨c2, hc2, hx2, hf2⟩ := (idxP_find (p := fun c : Cv => c.para == (ks[k - 1] : Nat)) (l := t.covers)).resolve_left (fun h => by rw [htf] at h; cases h.2)
              rw [hx2] at hi2
              have hgc2 := cvA_get t.covers c2 hc2
              have hqc : q.cv = t.covers[c2] := by rw [htf] at hf2; exact Option.some.inj hf2
              have hfo : fol q ⟨j, t.covers[ci]⟩ = (t.covers[c2].out == t.covers[ci].inn) := by simp only [fol, hqj, Bool.true_and, hqc]
              have dz : decide ((c2 : Int) ≥ 0) = true := by simp
              simp only [joinN, hfo] at hfin
              cases hoi : t.covers[c2].out == t.covers[ci].inn with
              | false =>
                simp only [hoi, Bool.false_eq_true, if_false] at hfin
                refine goB (N := 86) Tryz.ntmps13 300 ?_
                simp only [go_sem, dj, hget, List.length_map]
                repeat refine And.intro (by first | omega | (simp; done) | (simp; omega)) ?_
                refine pcall1 (hi1) rfl (N := 86) Tryz.ntmps13 rfl (goB (N := 86) Tryz.ntmps13 300 ?_)
                simp only [go_sem, dx, hgood, hs', dl]
                refine pcall1 (hi2) rfl (N := 86) Tryz.ntmps13 rfl (goB (N := 86) Tryz.ntmps13 300 ?_)
                simp only [go_sem]
                refine adraw [] mixed (by decide) (N := 86) Tryz.ntmps13 (by decide) 100 ?_
                simp only [go_sem, dlt, dz, hgc, hgc2, hoi, List.length_map]
                repeat refine And.intro (by first | omega | (simp; done) | (simp; omega)) ?_
                refine goB (N := 86) Tryz.ntmps13 300 ?_
                simp only [go_sem]
                repeat refine And.intro (by first | omega | (simp; done) | (simp; omega)) ?_
                refine pcall1 (hih) rfl (N := 86) Tryz.ntmps13 rfl (goB (N := 86) Tryz.ntmps13 300 ?_)
                simp only [go_sem]
                repeat refine And.intro (by first | omega | (simp; done) | (simp; omega)) ?_
                rw [show (j : Int) + 1 = ((j + 1 : Nat) : Int) by omega]
                refine ainv hfin (Shift.low 0 (by simp) (by simp) ?_ ?_)
                · simp only [List.take_zero, List.all_nil]
                · simp only [wkl, lowV, lowC, Av.get, go_sem, min_if]
              | true =>
                simp only [hoi, if_true] at hfin
                refine goB (N := 86) Tryz.ntmps13 300 ?_
                simp only [go_sem, dj, hget, List.length_map]
                repeat refine And.intro (by first | omega | (simp; done) | (simp; omega)) ?_
                refine pcall1 (hi1) rfl (N := 86) Tryz.ntmps13 rfl (goB (N := 86) Tryz.ntmps13 300 ?_)
                simp only [go_sem, dx, hgood, hs', dl]
                refine pcall1 (hi2) rfl (N := 86) Tryz.ntmps13 rfl (goB (N := 86) Tryz.ntmps13 300 ?_)
                simp only [go_sem]
                refine adraw [] mixed (by decide) (N := 86) Tryz.ntmps13 (by decide) 100 ?_
                simp only [go_sem, dlt, dz, hgc, hgc2, hoi, List.length_map]
                repeat refine And.intro (by first | omega | (simp; done) | (simp; omega)) ?_
                refine goB (N := 86) Tryz.ntmps13 300 ?_
                simp only [go_sem]
                repeat refine And.intro (by first | omega | (simp; done) | (simp; omega)) ?_
                refine pcall1 (hih) rfl (N := 86) Tryz.ntmps13 rfl (goB (N := 86) Tryz.ntmps13 300 ?_)
                simp only [go_sem]
                repeat refine And.intro (by first | omega | (simp; done) | (simp; omega)) ?_
                rw [show (j : Int) + 1 = ((j + 1 : Nat) : Int) by omega]
                refine ainv hfin (Shift.low 0 (by simp) (by simp) ?_ ?_)
                · simp only [List.take_zero, List.all_nil]
                · simp only [wkl, lowV, lowC, Av.get, go_sem, min_if]
    · have dj : decide ((j : Int) < (l.length : Int)) = false := by simp; omega
      have : j = l.length := by omega
      subst this
      refine goB (N := 86) Tryz.ntmps13 300 ?_
      simp only [go_sem, dj]
      exact aret [10] rfl ⟨rfl, rfl⟩
end Go.Proofs.YtkfpiadgjbhcpaaGreatDoor
