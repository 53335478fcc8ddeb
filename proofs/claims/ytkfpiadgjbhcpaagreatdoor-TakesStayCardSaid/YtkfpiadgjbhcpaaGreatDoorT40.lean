/- take.CheckTakes at a film. Own work of this seat. -/
import Derived.Test.YtkfpiadgjbhcpaaGreatDoorT39
import Derived.Test.YtkfpiadgjbhcpaaGreatDoorT21
import Derived.Test.YtkfpiadgjbhcpaaGreatDoorT24
set_option maxRecDepth 100000
set_option linter.unusedSimpArgs false
set_option linter.unusedVariables false
namespace Go.Proofs.YtkfpiadgjbhcpaaGreatDoor
open Go Go.Av Go.RowKit

/-! ### maps by slates -/
abbrev slFs : List Field := [{ name := "scene", type := 9, offset := 0, embedded := false, tag := "", pkgPath := "backlot/take", byteOffset := 0 }, { name := "setup", type := 9, offset := 1, embedded := false, tag := "", pkgPath := "backlot/take", byteOffset := 16 }, { name := "number", type := 3, offset := 2, embedded := false, tag := "", pkgPath := "backlot/take", byteOffset := 32 }]
def slA (x : List UInt8 × Int) : AV := .agg [.str x.1, .str [], .int .i64 x.2]
theorem keyEqS_sl (a b : List UInt8 × Int) : keyEqS Tryz.prog slFs (slA a) (slA b) = some (a.1 == b.1 && a.2 == b.2) := by
  simp only [keyEqS, slA, slFs, List.length_cons, List.length_nil, decide_true, Bool.and_self, cond_true, eqFs, Tryz.underlying9, Tryz.underlying3, leafEq, bothB, if_true, Bool.and_true]
  simp
def slM (l : List (List UInt8 × Int)) : List (AV × AV) := l.map fun x => (slA x, .bool true)
theorem slM_none (s : List UInt8 × Int) : ∀ (l : List (List UInt8 × Int)) (n : Nat), s ∉ l → mfindS Tryz.prog slFs (slA s) (slM l) n = some none
  | [], n, _ => rfl
  | a :: r, n, h => by
    simp only [List.mem_cons, not_or] at h
    have hb : (s.1 == a.1 && s.2 == a.2) = false := by
      cases hq : (s.1 == a.1 && s.2 == a.2) with
      | false => rfl
      | true =>
        simp only [Bool.and_eq_true, beq_iff_eq] at hq
        exact absurd (Prod.ext hq.1 hq.2) h.1
    simp only [slM, List.map_cons, mfindS, keyEqS_sl, hb]
    exact slM_none s r (n + 1) h.2
theorem low_slM (n : Nat) (l : List (List UInt8 × Int)) : lowB n (.mp (slM l)) = true := by
  show (slM l).all _ = true
  rw [List.all_eq_true]
  intro x hx
  simp only [slM, List.mem_map] at hx
  obtain ⟨k, _, rfl⟩ := hx
  rfl
theorem bor_wn (n : Nat) (s : List Blk) (id : Nat) (ws : List Wn) (h : s.getD id .dead = .arr 2 (ws.map wnA)) : borF 1 s (.sl id 0 ws.length ws.length) = .fz 2 (ws.map wnA) := by
  show bor (0 + 1) s (.sl id 0 ws.length ws.length) = _
  rw [bor_sl, h]
  simp only [Nat.zero_add, List.length_map, decide_true, Nat.le_refl, Bool.and_self, cond_true, List.drop_zero, AV.fz.injEq, true_and]
  rw [List.take_of_length_le (by simp), List.map_map]
  exact List.map_congr_left fun x _ => rfl
theorem wn_frz : ∀ l : List Wn, (flat (l.map wnA)).all Av.frozen = true
  | [] => rfl
  | x :: r => by simpa [flat, cellsOf, wnA, Av.frozen] using wn_frz r
def keyT (t : Tk) : List UInt8 × Int := (t.scene, t.number)
def winT (t : Tk) : Wn := ⟨t.inn, t.out⟩
theorem TakesOk.new {x : Sr} {r : Rl} {l : List Tk} (hok : TakesOk x r l) (hl : ∀ t ∈ l, TkB r t) (i : Nat) (hi : i < l.length) : keyT l[i] ∉ (l.take i).map keyT := by
  intro h
  obtain ⟨y, hy, e⟩ := List.mem_map.1 h
  have hd := (hok.at' i _ (List.getElem?_eq_getElem hi)).dup
  rw [List.any_eq_false] at hd
  have h2 := hd y hy
  simp only [keyT, Prod.mk.injEq] at e
  have hy' := hl y (List.mem_of_mem_take hy)
  have hi' := hl _ (List.getElem_mem hi)
  apply h2
  simp [dupB, e.1, e.2, hy'.setup, hi'.setup]
theorem TakesOk.free {x : Sr} {r : Rl} {l : List Tk} (hok : TakesOk x r l) (hl : ∀ t ∈ l, TkB r t) (i : Nat) (hi : i < l.length) : (((l.take i).map winT).any fun w => decide (w.frm < l[i].out) && decide (l[i].inn < w.to')) = false := by
  have hd := (hok.at' i _ (List.getElem?_eq_getElem hi)).busy
  rw [List.any_eq_false] at hd ⊢
  intro w hw
  obtain ⟨y, hy, rfl⟩ := List.mem_map.1 hw
  have h2 := hd y hy
  have hy' := hl y (List.mem_of_mem_take hy)
  have hi' := hl _ (List.getElem_mem hi)
  simp only [busyB, hy'.roll, hi'.roll, beq_self_eq_true, Bool.true_and] at h2
  exact h2

theorem ren_scM (σ : List Nat) : ∀ (l : List Sc) (n : Nat), (scMF n l).map (fun x => (x.1, renV σ x.2)) = scMF n l
  | [], n => rfl
  | y :: r, n => by simp only [scMF, List.map_cons, ren_scM σ r (n + 1)]; rfl
theorem ren_slM (σ : List Nat) : ∀ (l : List (List UInt8 × Int)), (slM l).map (fun x => (x.1, renV σ x.2)) = slM l
  | [] => rfl
  | y :: r => by
    have := ren_slM σ r
    simp only [slM, List.map_cons] at this ⊢
    rw [this]; rfl
theorem ren_first (xs : List Sc) (ks : List (List UInt8 × Int)) (nm : List UInt8) (a b : Int) (b3 b4 b5 b6 : Blk) :
    renS [0, 1, 2, 7] (.mp (scMF 0 xs) :: .mp (slM ks) :: .mp [(.str nm, .sl 7 0 1 1)] :: b3 :: b4 :: b5 :: b6 :: [.arr 2 [.agg [.int .i64 a, .int .i64 b]]]) = [.mp (scMF 0 xs), .mp (slM ks), .mp [(.str nm, .sl 3 0 1 1)], .arr 2 [.agg [.int .i64 a, .int .i64 b]]] := by
  have h : renS [0, 1, 2, 7] (.mp (scMF 0 xs) :: .mp (slM ks) :: .mp [(.str nm, .sl 7 0 1 1)] :: b3 :: b4 :: b5 :: b6 :: [.arr 2 [.agg [.int .i64 a, .int .i64 b]]]) =
    [.mp ((scMF 0 xs).map fun x => (x.1, renV [0, 1, 2, 7] x.2)), .mp ((slM ks).map fun x => (x.1, renV [0, 1, 2, 7] x.2)), .mp [(.str nm, .sl 3 0 1 1)], .arr 2 [.agg [.int .i64 a, .int .i64 b]]] := rfl
  rw [h, ren_scM, ren_slM]
set_option maxHeartbeats 8000000 in
theorem checkTakes_pch {S : Std} (hS : LibR S) (x : Sr) (r : Rl) (rs : List Rl) (l : List Tk) (hf : FilmOk x r rs l) :
    PcH Tryz.prog S 37 [srA x, .fz 5 ((r :: rs).map rlA), .fz 9 (l.map tkA)] (· = .int .i64 0) := by
  have hx := hf.story
  have hlen := hx.len
  have hll := hf.len
  have hok := hf.ok
  have htb := hf.takes
  have hm := hf.many
  have h1 := scriptFault_pch hS x hx
  have h2 := checkRolls_pc (r :: rs) hf.rolls hf.names
  have h3 := scenesOf_ct0 x hx
  have d1 : decide ((l.length : Int) > 3000) = false := by simp; omega
  obtain ⟨hro0, _⟩ := hf.rolls.at' 0 r rfl
  have hrs := hro0.start
  have hrg := hro0.long
  have hdb : 0 ≤ dayR r.rate ∧ dayR r.rate ≤ 2592000 := by
    have := hro0.rate
    obtain h | h | h | h : r.rate = 1 ∨ r.rate = 2 ∨ r.rate = 3 ∨ r.rate = 4 := by omega
    all_goals rw [h]; decide
  have hro1 := rollOf_pc r rs (by omega)
  have hro2 := rollOfE_pc (r :: rs) (by simp; omega) (fun y hy => by
    obtain ⟨i, hi, rfl⟩ := List.getElem_of_mem hy
    exact rn_ne (hf.rolls.at' i _ (List.getElem?_eq_getElem hi)).1.name)
  have hset := isSetup_pc
  simp only [srA, List.map_cons, rlA, rlZ] at h1 h2 h3 hro1 hro2 ⊢
  refine pch_intro (cth_intro Tryz.func37 rfl Tryz.ntmps37 hB37 (by simp) fun h ρ w hg => goB (N := 149) Tryz.ntmps37 300 ?_)
  simp only [go_sem]
  refine pcallH1 hg (h1) rfl (N := 149) Tryz.ntmps37 rfl (goB (N := 149) Tryz.ntmps37 300 ?_)
  simp only [go_sem]
  refine pcall1 (h2) rfl (N := 149) Tryz.ntmps37 rfl (goB (N := 149) Tryz.ntmps37 300 ?_)
  simp only [go_sem, d1, List.length_map]
  refine acall (h3) (N := 149) Tryz.ntmps37 rfl ?_
  rintro _ _ ⟨rfl, rfl⟩
  refine goB (N := 149) Tryz.ntmps37 300 ?_
  simp only [go_sem, List.length_map]
  refine aloop (ι := Nat) (fun y => l.length - y)
    (fun y => [(40, .int .i64 y), (39, .int .i64 l.length), (38, .fz 9 (l.map tkA)), (9, .mp 0), (10, .mp 1), (11, .mp 2), (3, .pin 2 [.agg [.str x.title, .fz 5 (x.scenes.map scA)]] 0 0), (1, .fz 5 (.agg [.str r.name, .int .i64 r.rate, .int .i64 r.start, .int .i64 r.long, .int .i64 r.drift] :: rs.map rlA)), (2, .fz 9 (l.map tkA))])
    (fun y => .mp (scMF 0 x.scenes) :: .mp (slM ((l.take y).map keyT)) :: (if y = 0 then [.mp []] else [.mp [(.str r.name, .sl 3 0 ((l.take y).map winT).length ((l.take y).map winT).length)], .arr 2 (((l.take y).map winT).map wnA)]))
    (fun y => y ≤ l.length) 0 (by simp) ?_ ?_
  · refine Shift.weakS ?_ rfl
    simp only [wk, go_sem, List.length_map]
  intro i g1 J hJ
  by_cases gi : i < l.length
  · have di : decide ((i : Int) < (l.length : Int)) = true := by simp; omega
    have hget := tkA_get l i gi
    have hti := hok.at' i _ (List.getElem?_eq_getElem gi)
    have hb := htb _ (List.getElem_mem gi)
    obtain ⟨j, hj, hjs⟩ := (sceneIx_bd x l[i].scene).resolve_left (by have := hti.scene; omega)
    obtain ⟨s1, s2⟩ := scenes_at hx hj hjs
    have m0 := scMF_find x.scenes 0 0 j hj s1 s2
    rw [Nat.zero_add] at m0
    have mS := slM_none (keyT l[i]) ((l.take i).map keyT) 0 (hok.new htb i gi)
    have mP : slM ((l.take i).map keyT) ++ [(slA (keyT l[i]), .bool true)] = slM ((l.take (i + 1)).map keyT) := by
      rw [List.take_add_one, List.getElem?_eq_getElem gi, List.map_append, slM, slM, List.map_append]
      rfl
    have hcov := coversFault_pc l[i] x.scenes[j].paras.length hb.len (by have := (hx.all j hj).len; exact this) (fun k c hc => hti.cov j hj hjs k c hc)
    have hfree := hok.free htb i gi
    have hwin := anyWn_pc 97 [.pin 9 [tkA l[i]] 0 0] rfl (fun w => decide (w.frm < l[i].out) && decide (l[i].inn < w.to')) ((l.take i).map winT) (by simp; omega) (fun w _ => winFn_pc w l[i])
    rw [hfree] at hwin
    have hgs := scA_get x.scenes j hj
    have hfin := hJ (i + 1) (by omega) (by omega)
    rw [if_neg (by omega)] at hfin
    have hwl : ((l.take i).map winT).length = i := by simp; omega
    have hW : (l.take (i + 1)).map winT = (l.take i).map winT ++ [winT l[i]] := by
      rw [List.take_add_one, List.getElem?_eq_getElem gi, List.map_append]
      rfl
    rw [hW] at hfin
    have b1 := hb.setup
    have b2 := hb.number
    have b3 := hb.roll
    have b4 := hb.sound
    have b5 := hb.inn
    have b6 := hb.out
    have hhold := within_pc r l[i].inn l[i].out ⟨by omega, by omega⟩ ⟨by omega, by omega⟩
    rw [hti.hold] at hhold
    have n1 : decide (l[i].number < 1) = false := by simp; omega
    have n2 : decide (l[i].number > 99) = false := by simp; omega
    have hsc : (x.scenes[j].paras.map paA).length = x.scenes[j].paras.length := by simp
    generalize hti' : l[i] = t at *
    generalize x.scenes[j] = y at *
    simp only [tkA, rlA, b1, b3, b4, slA, keyT, winT] at hget hhold mS mP hcov hwin hfin
    by_cases h0 : i = 0
    · have hw0 : (l.take i).map winT = [] := by rw [h0]; rfl
      rw [if_pos h0]
      simp only [hw0, List.map_nil, List.nil_append, List.length_cons, List.length_nil, Nat.zero_add, List.map_cons, wnA] at hfin hwin
      refine goB (N := 149) Tryz.ntmps37 300 ?_
      simp only [go_sem, di, hget, m0, List.length_map]
      repeat refine And.intro (by first | omega | rfl | kernel_rfl | (simp; done) | (simp; omega)) ?_
      refine pcall1 (hset) rfl (N := 149) Tryz.ntmps37 rfl (goB (N := 149) Tryz.ntmps37 300 ?_)
      simp only [go_sem, n1, n2, mS, mP]
      repeat refine And.intro (by first | omega | rfl | kernel_rfl | (simp; done) | (simp; omega)) ?_
      refine pcall1 (hro1) rfl (N := 149) Tryz.ntmps37 rfl (goB (N := 149) Tryz.ntmps37 300 ?_)
      simp only [go_sem]
      refine pcall1 (hro2) rfl (N := 149) Tryz.ntmps37 rfl (goB (N := 149) Tryz.ntmps37 300 ?_)
      simp only [go_sem]
      refine pcall1 (hhold) rfl (N := 149) Tryz.ntmps37 rfl (goB (N := 149) Tryz.ntmps37 300 ?_)
      simp only [go_sem, mfind]
      have hbor := Ct.borrowF (P := Tryz.prog) (f := 96) (args := [.raw (.slice none 0 0), .fn (.func 97) [.ptr 3 1 0 0]]) 1 [.mp (scMF 0 x.scenes), .mp (slM ((l.take (i + 1)).map keyT)), .mp [], .arr 9 [.agg [.str t.scene, .str [], .int .i64 t.number, .str r.name, .str [], .int .i64 t.inn, .int .i64 t.out, .bool t.good, .fz 4 (t.covers.map cvA)]], .arr 3 [.agg [.str t.scene, .str [], .int .i64 t.number]], .arr 5 [.agg [.str r.name, .int .i64 r.rate, .int .i64 r.start, .int .i64 r.long, .int .i64 r.drift]], .arr 5 [.agg [.str [], .int .i64 0, .int .i64 0, .int .i64 0, .int .i64 0]]] hwin.nilarg (by rintro r rfl; rfl)
      refine acall (hbor) (N := 149) Tryz.ntmps37 rfl ?_
      rintro _ _ ⟨rfl, rfl⟩
      refine goB (N := 149) Tryz.ntmps37 300 ?_
      simp only [go_sem]
      repeat refine And.intro (by first | omega | rfl | kernel_rfl | (simp; done) | (simp; omega)) ?_
      refine adrawA (7) [] mixed (by decide) (N := 149) Tryz.ntmps37 (by decide) 100 ?_
      simp only [go_sem, mfind, List.length_map, cka, isApp, appOk]
      repeat refine And.intro (by first | omega | rfl | kernel_rfl | exact .inl rfl | exact .inl trivial | (simp; done) | (simp; omega)) ?_
      refine goB (N := 149) Tryz.ntmps37 300 ?_
      simp only [go_sem]
      refine adraw [.int .i64 0] mixed (by decide) (N := 149) Tryz.ntmps37 (by decide) 100 ?_
      simp only [go_sem, hgs, List.length_map]
      repeat refine And.intro (by first | omega | rfl | kernel_rfl | exact hcov.at | (simp; done) | (simp; omega)) ?_
      refine goB (N := 149) Tryz.ntmps37 300 ?_
      simp only [go_sem]
      repeat refine And.intro (by first | omega | rfl | kernel_rfl | (simp; done) | (simp; omega)) ?_
      rw [show (i : Int) + 1 = ((i + 1 : Nat) : Int) by omega]
      refine ainv hfin (Shift.trans (Shift.ren [0, 1, 2, 7] rfl) (Shift.weakS ?_ ?_))
      · simp only [renE, List.map_cons, List.map_nil, wk, go_sem, renV, renC, ren1]
        repeat (first | rfl | refine And.intro rfl ?_)
      · exact ren_first x.scenes ((l.take (i + 1)).map keyT) r.name t.inn t.out _ _ _ _
    · rw [if_neg h0]
      obtain ⟨ws, hws⟩ : ∃ ws, ws = (l.take i).map winT := ⟨_, rfl⟩
      rw [← hws] at hwin hwl hfin ⊢
      have mU : mfind .string (.str r.name) [(AV.str r.name, AV.sl 3 0 ws.length ws.length)] 0 = some (some (0, AV.sl 3 0 ws.length ws.length)) := by simp [mfind, keyEq]
      simp only [List.map_append, List.length_append, List.length_cons, List.length_nil, List.map_cons, List.map_nil, Nat.zero_add, wnA] at hfin
      refine goB (N := 149) Tryz.ntmps37 300 ?_
      simp only [go_sem, di, hget, m0, List.length_map]
      repeat refine And.intro (by first | omega | rfl | kernel_rfl | (simp; done) | (simp; omega)) ?_
      refine pcall1 (hset) rfl (N := 149) Tryz.ntmps37 rfl (goB (N := 149) Tryz.ntmps37 300 ?_)
      simp only [go_sem, n1, n2, mS, mP]
      repeat refine And.intro (by first | omega | rfl | kernel_rfl | (simp; done) | (simp; omega)) ?_
      refine pcall1 (hro1) rfl (N := 149) Tryz.ntmps37 rfl (goB (N := 149) Tryz.ntmps37 300 ?_)
      simp only [go_sem]
      refine pcall1 (hro2) rfl (N := 149) Tryz.ntmps37 rfl (goB (N := 149) Tryz.ntmps37 300 ?_)
      simp only [go_sem]
      refine pcall1 (hhold) rfl (N := 149) Tryz.ntmps37 rfl (goB (N := 149) Tryz.ntmps37 300 ?_)
      simp only [go_sem, mU]
      repeat refine And.intro (by first | omega | rfl | kernel_rfl | (simp; done) | (simp; omega)) ?_
      have hbor := Ct.borrowF (P := Tryz.prog) (f := 96) (args := [.sl 3 0 ws.length ws.length, .fn (.func 97) [.ptr 4 1 0 0]]) 1 [.mp (scMF 0 x.scenes), .mp (slM ((l.take (i + 1)).map keyT)), .mp [(.str r.name, .sl 3 0 ws.length ws.length)], .arr 2 (ws.map wnA), .arr 9 [.agg [.str t.scene, .str [], .int .i64 t.number, .str r.name, .str [], .int .i64 t.inn, .int .i64 t.out, .bool t.good, .fz 4 (t.covers.map cvA)]], .arr 3 [.agg [.str t.scene, .str [], .int .i64 t.number]], .arr 5 [.agg [.str r.name, .int .i64 r.rate, .int .i64 r.start, .int .i64 r.long, .int .i64 r.drift]], .arr 5 [.agg [.str [], .int .i64 0, .int .i64 0, .int .i64 0, .int .i64 0]]] (post := (· = .bool false)) (by
        simp only [List.map_cons, List.map_nil]
        rw [bor_wn 1 _ 3 ws rfl]
        exact hwin) (by rintro r rfl; rfl)
      refine acall (hbor) (N := 149) Tryz.ntmps37 rfl ?_
      rintro _ _ ⟨rfl, rfl⟩
      refine goB (N := 149) Tryz.ntmps37 300 ?_
      simp only [go_sem]
      repeat refine And.intro (by first | omega | rfl | kernel_rfl | (simp; done) | (simp; omega)) ?_
      refine adrawA (3) [] mixed (by decide) (N := 149) Tryz.ntmps37 (by decide) 100 ?_
      simp only [go_sem, mU, List.length_map, cka, isApp, appOk]
      repeat refine And.intro (by first | omega | rfl | kernel_rfl | exact .inl rfl | exact .inl trivial | (simp; done) | (simp; omega)) ?_
      refine goB (N := 149) Tryz.ntmps37 300 ?_
      simp only [go_sem]
      refine adraw [.int .i64 0] mixed (by decide) (N := 149) Tryz.ntmps37 (by decide) 100 ?_
      simp only [go_sem, hgs, List.length_map]
      repeat refine And.intro (by first | omega | rfl | kernel_rfl | exact hcov.at | (simp; done) | (simp; omega)) ?_
      refine goB (N := 149) Tryz.ntmps37 300 ?_
      simp only [go_sem]
      repeat refine And.intro (by first | omega | rfl | kernel_rfl | (simp; done) | (simp; omega)) ?_
      rw [show (i : Int) + 1 = ((i + 1 : Nat) : Int) by omega]
      refine ainv hfin (Shift.low 4 (by simp) (by simp) ?_ ?_)
      · simp only [List.take_succ_cons, List.take_zero, List.all_cons, List.all_nil, ↓low_scM, ↓low_slM, lowV, lowB, flat, cellsOf, lowC, Av.frozen, decide_true, List.append_nil, List.cons_append, List.nil_append, flat_append, List.all_append, low_all (wn_frz _), Nat.reduceLT, Bool.and_self]
      · simp only [wkl, lowV, lowC, Av.get, go_sem]
  · have di : decide ((i : Int) < (l.length : Int)) = false := by simp; omega
    refine goB (N := 149) Tryz.ntmps37 300 ?_
    simp only [go_sem, di]
    exact aret [6] rfl ⟨rfl, rfl⟩
def ppA (p : Pp') : AV := .agg [.int .i64 p.take, .int .i64 p.cv.para, .int .i64 p.cv.inn, .int .i64 p.cv.out, .bool p.cv.on]
def scrA (s : Scr) : AV := .agg [.int .i64 s.joins, .int .i64 s.on]
def stpA (s : Stp) : AV := .agg [.fz 5 (s.parts.map ppA), .fz 2 (s.parts.map fun p => scrA (s.scr p)), .int .i64 s.best.joins, .int .i64 s.best.on]
theorem ppA_get (l : List Pp') (i : Nat) (h : i < l.length) : List.getD (List.map ppA l) i .any = .agg [.int .i64 l[i].take, .int .i64 l[i].cv.para, .int .i64 l[i].cv.inn, .int .i64 l[i].cv.out, .bool l[i].cv.on] := by simp [List.getD, h, ppA]
theorem pp_frz : ∀ l : List Pp', (flat (l.map ppA)).all Av.frozen = true
  | [] => rfl
  | x :: r => by simpa [flat, cellsOf, ppA, Av.frozen] using pp_frz r
theorem ints_frz : ∀ l : List Nat, (flat (l.map fun (n : Nat) => AV.int .i64 (n : Int))).all Av.frozen = true
  | [] => rfl
  | x :: r => by simpa [flat, cellsOf, Av.frozen] using ints_frz r
theorem own_pc (p : Pp') (sp : Bool) : Pc Tryz.prog 166 [ppA p, .bool sp] (· = scrA (ownS p sp)) := by
  unfold ownS scrA ppA
  refine pc_intro (ct_intro Tryz.func166 rfl Tryz.ntmps166 hB166 (by simp) fun h ρ w => goB (N := 13) Tryz.ntmps166 300 ?_)
  cases sp with
  | false =>
    simp only [go_sem]
    exact aretc [.cell 4 249] rfl [_] ⟨by simp only [go_sem, sideIs, Bool.false_and, Bool.false_eq_true, if_false], trivial⟩ ⟨rfl, rfl⟩
  | true =>
    cases h1 : p.cv.on with
    | false =>
      simp only [go_sem]
      exact aretc [.cell 4 249] rfl [_] ⟨by simp only [go_sem, sideIs, Bool.and_false, Bool.false_eq_true, if_false], trivial⟩ ⟨rfl, rfl⟩
    | true =>
      simp only [go_sem]
      exact aretc [.cell 4 249] rfl [_] ⟨by simp only [go_sem, sideIs, Bool.and_self, if_true], trivial⟩ ⟨rfl, rfl⟩
theorem nat_beq (a b : Nat) : ((a : Int) == (b : Int)) = (a == b) := by
  rw [Bool.eq_iff_iff, beq_iff_eq, beq_iff_eq]; omega
theorem follows2_pc (a b : Pp') : Pc Tryz.prog 167 [ppA a, ppA b] (· = .bool (fol a b)) := by
  unfold fol ppA
  refine pc_intro (ct_intro Tryz.func167 rfl Tryz.ntmps167 hB167 (by simp) fun h ρ w => goB (N := 19) Tryz.ntmps167 300 ?_)
  cases h1 : a.take == b.take with
  | false =>
    simp only [go_sem, nat_beq, h1]
    exact aret [4] rfl ⟨by simp [resV, Av.get, Av.put], rfl⟩
  | true =>
    simp only [go_sem, nat_beq, h1]
    exact aret [4] rfl ⟨by simp [resV, Av.get, Av.put], rfl⟩
theorem better_pc (a b : Scr) : Pc Tryz.prog 168 [scrA a, scrA b] (· = .bool (bet a b)) := by
  unfold bet scrA
  refine pc_intro (ct_intro Tryz.func168 rfl Tryz.ntmps168 hB168 (by simp) fun h ρ w => goB (N := 24) Tryz.ntmps168 300 ?_)
  cases h1 : decide (a.joins < b.joins) with
  | true =>
    simp only [go_sem, h1]
    exact aret [4] rfl ⟨by simp [resV, Av.get, Av.put], rfl⟩
  | false =>
    cases h2 : a.joins == b.joins with
    | false =>
      simp only [go_sem, h1, h2]
      exact aret [4] rfl ⟨by simp [resV, Av.get, Av.put], rfl⟩
    | true =>
      simp only [go_sem, h1, h2]
      exact aret [4] rfl ⟨by simp [resV, Av.get, Av.put], rfl⟩
/-- the paragraphs that need takes -/
def isNeed (p : Pa) : Bool := p.kind == 1 || p.kind == 4
def needF : Nat → List Pa → List Nat
  | _, [] => []
  | n, p :: r => if isNeed p then n :: needF (n + 1) r else needF (n + 1) r
theorem needF_app : ∀ (a b : List Pa) (n : Nat), needF n (a ++ b) = needF n a ++ needF (n + a.length) b
  | [], b, n => rfl
  | p :: a, b, n => by
    simp only [List.cons_append, needF, needF_app a b (n + 1), List.length_cons]
    rw [show n + 1 + a.length = n + (a.length + 1) by omega]
    split <;> rfl
theorem needF_len : ∀ (l : List Pa) (n : Nat), (needF n l).length ≤ l.length
  | [], n => by simp [needF]
  | p :: r, n => by
    have := needF_len r (n + 1)
    simp only [needF]
    split <;> (simp only [List.length_cons]; omega)
theorem needF_mem : ∀ (l : List Pa) (n : Nat), ∀ k ∈ needF n l, n ≤ k ∧ k < n + l.length
  | [], n, k, h => by simp [needF] at h
  | p :: r, n, k, h => by
    have ih := needF_mem r (n + 1)
    simp only [needF] at h
    split at h
    · rcases List.mem_cons.1 h with rfl | h
      · simp
      · have := ih k h; simp only [List.length_cons]; omega
    · have := ih k h; simp only [List.length_cons]; omega
theorem needF_step (l : List Pa) (i : Nat) (hi : i < l.length) : needF 0 (l.take (i + 1)) = needF 0 (l.take i) ++ (if isNeed l[i] then [i] else []) := by
  rw [List.take_add_one, List.getElem?_eq_getElem hi, needF_app]
  simp only [Option.toList, needF, List.length_take]
  rw [show 0 + min i l.length = i by omega]
def natA (l : List Nat) : List AV := l.map fun (n : Nat) => AV.int .i64 (n : Int)
set_option maxHeartbeats 1000000 in
theorem needing_pc (x : Sc) (hl : x.paras.length ≤ 60) : Pc Tryz.prog 164 [scA x] (· = .fz 1 (natA (needF 0 x.paras))) := by
  simp only [scA]
  refine pc_intro (ct_intro Tryz.func164 rfl Tryz.ntmps164 hB164 (by simp) fun h ρ w => goB (N := 28) Tryz.ntmps164 300 ?_)
  simp only [go_sem, List.length_map]
  refine aloop (ι := Nat) (fun y => x.paras.length - y)
    (fun y => [(9, .int .i64 y), (8, .int .i64 x.paras.length), (7, .fz 2 (x.paras.map paA)), (3, .sl 0 0 (needF 0 (x.paras.take y)).length (needF 0 (x.paras.take y)).length)])
    (fun y => [.arr 1 (natA (needF 0 (x.paras.take y)))]) (fun y => y ≤ x.paras.length) 0 (by simp) ?_ ?_
  · refine Shift.trans (Shift.nilsl 3 1 rfl) (Shift.weakS ?_ ?_)
    · simp only [wk, go_sem, List.length_map, List.take_zero, needF]
    · simp [natA, needF]
  intro i g1 J hJ
  have hnl := needF_len (x.paras.take i) 0
  rw [List.length_take] at hnl
  by_cases gi : i < x.paras.length
  · have di : decide ((i : Int) < (x.paras.length : Int)) = true := by simp; omega
    have hget := paA_get x.paras i gi
    have hstep := needF_step x.paras i gi
    have hfin := hJ (i + 1) (by omega) (by omega)
    rw [hstep] at hfin
    unfold isNeed at hfin
    generalize x.paras[i] = p at *
    generalize needF 0 (x.paras.take i) = u at *
    have hul : (natA u).length = u.length := by simp [natA]
    cases h1 : p.kind == 1 with
    | true =>
      simp only [h1, Bool.true_or, Bool.or_true, if_true, natA, List.map_append, List.length_append, List.map_cons, List.map_nil, List.length_cons, List.length_nil, Nat.zero_add] at hfin
      refine goB (N := 28) Tryz.ntmps164 300 ?_
      simp only [go_sem, di, hget, h1, List.length_map]
      repeat refine And.intro (by first | omega | rfl | exact .inl trivial | (simp; done) | (simp; omega)) ?_
      simp only [natA]
      refine goB (N := 28) Tryz.ntmps164 300 ?_
      simp only [go_sem, List.length_map]
      repeat refine And.intro (by first | omega | rfl | exact .inl trivial | (simp; done) | (simp; omega)) ?_
      rw [show (i : Int) + 1 = ((i + 1 : Nat) : Int) by omega]
      refine ainv hfin (Shift.low 1 (by simp) (by simp) ?_ ?_)
      · simp only [List.take_succ_cons, List.take_zero, List.all_cons, List.all_nil, lowB, flat, cellsOf, lowC, Av.frozen, List.append_nil, flat_append, List.all_append, low_all (ints_frz _), Bool.and_self]
      · simp only [wkl, lowV, lowC, Av.get, go_sem]
    | false =>
      cases h4 : p.kind == 4 with
      | true =>
        simp only [h1, h4, Bool.true_or, Bool.or_true, if_true, natA, List.map_append, List.length_append, List.map_cons, List.map_nil, List.length_cons, List.length_nil, Nat.zero_add] at hfin
        refine goB (N := 28) Tryz.ntmps164 300 ?_
        simp only [go_sem, di, hget, h1, h4, List.length_map]
        repeat refine And.intro (by first | omega | rfl | exact .inl trivial | (simp; done) | (simp; omega)) ?_
        simp only [natA]
        refine goB (N := 28) Tryz.ntmps164 300 ?_
        simp only [go_sem, List.length_map]
        repeat refine And.intro (by first | omega | rfl | exact .inl trivial | (simp; done) | (simp; omega)) ?_
        rw [show (i : Int) + 1 = ((i + 1 : Nat) : Int) by omega]
        refine ainv hfin (Shift.low 1 (by simp) (by simp) ?_ ?_)
        · simp only [List.take_succ_cons, List.take_zero, List.all_cons, List.all_nil, lowB, flat, cellsOf, lowC, Av.frozen, List.append_nil, flat_append, List.all_append, low_all (ints_frz _), Bool.and_self]
        · simp only [wkl, lowV, lowC, Av.get, go_sem]
      | false =>
        simp only [h1, h4, Bool.or_self, Bool.false_eq_true, if_false, List.append_nil] at hfin
        refine goB (N := 28) Tryz.ntmps164 300 ?_
        simp only [go_sem, di, hget, h1, h4, List.length_map]
        repeat refine And.intro (by first | omega | rfl | exact .inl trivial | (simp; done) | (simp; omega)) ?_
        rw [show (i : Int) + 1 = ((i + 1 : Nat) : Int) by omega]
        refine ainv hfin (Shift.low 1 (by simp) (by simp) ?_ ?_)
        · simp only [List.take_succ_cons, List.take_zero, List.all_cons, List.all_nil, lowB, natA, low_all (ints_frz _), Bool.and_self]
        · simp only [wkl, lowV, lowC, Av.get, go_sem]
  · have di : decide ((i : Int) < (x.paras.length : Int)) = false := by simp; omega
    rw [show x.paras.take i = x.paras from List.take_of_length_le (by omega)]
    clear hJ hnl
    generalize needF 0 x.paras = u
    refine AWp.shift (Shift.freeze 3 (id := 0) (l := natA u) rfl rfl (by simp [natA]) (Nat.le_refl _) (ints_frz _)) ?_
    have htk : List.take u.length (List.drop 0 (natA u)) = natA u := by rw [List.drop_zero, natA, List.take_of_length_le (by simp)]
    rw [htk]
    refine goB (N := 28) Tryz.ntmps164 300 ?_
    simp only [go_sem, di]
    exact aret [2] rfl ⟨rfl, rfl⟩
end Go.Proofs.YtkfpiadgjbhcpaaGreatDoor
