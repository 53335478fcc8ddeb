/- The reference's faults of takes. Own work of this seat. -/
import Derived.Test.YtkfpiadgjbhcpaaGreatDoorT37
import Derived.Test.YtkfpiadgjbhcpaaGreatDoorT21
set_option maxRecDepth 100000
set_option linter.unusedSimpArgs false
set_option linter.unusedVariables false
namespace Go.Proofs.YtkfpiadgjbhcpaaGreatDoor
open Go Go.Av Go.RowKit

theorem sceneAtFn_pc (x : Sc) (no : List UInt8) : Pc Tryz.prog 215 [scA x, .pin 1 [.str no] 0 0] (· = .bool (x.no == no && no != [])) := by
  simp only [scA]
  refine pc_intro (ct_intro Tryz.func215 rfl Tryz.ntmps215 hB215 (by simp) fun h ρ w => goB (N := 12) Tryz.ntmps215 300 ?_)
  cases e1 : x.no == no with
  | true =>
    simp only [go_sem, e1]
    exact aret [3] rfl ⟨by simp [resV, Av.get, Av.put, e1], rfl⟩
  | false =>
    simp only [go_sem, e1]
    exact aret [3] rfl ⟨by simp [resV, Av.get, Av.put, e1], rfl⟩
def sceneIx (x : Sr) (no : List UInt8) : Int := idxP (fun y => y.no == no && no != []) x.scenes
theorem sceneAt_pc (x : Sr) (no : List UInt8) (hl : x.scenes.length ≤ 5) : Pc Tryz.prog 156 [srA x, .str no] (· = .int .i64 (sceneIx x no)) := by
  have hi := idxSc_pc 215 [.pin 1 [.str no] 0 0] rfl (fun y => y.no == no && no != []) x.scenes (by omega) (fun y _ => sceneAtFn_pc y no)
  simp only [srA]
  refine pc_intro (ct_intro Tryz.func156 rfl Tryz.ntmps156 hB156 (by simp) fun h ρ w => goB (N := 9) Tryz.ntmps156 300 ?_)
  simp only [go_sem]
  refine pcall1 (hi) rfl (N := 9) Tryz.ntmps156 rfl (goB (N := 9) Tryz.ntmps156 300 ?_)
  simp only [go_sem]
  exact aret [4] rfl ⟨rfl, rfl⟩
theorem rollFnR_pc (x : Rl) (no : List UInt8) : Pc Tryz.prog 216 [rlA x, .pin 1 [.str no] 0 0] (· = .bool (x.name == no && no != [])) := by
  simp only [rlA]
  refine pc_intro (ct_intro Tryz.func216 rfl Tryz.ntmps216 hB216 (by simp) fun h ρ w => goB (N := 12) Tryz.ntmps216 300 ?_)
  cases e1 : x.name == no with
  | true =>
    simp only [go_sem, e1]
    exact aret [3] rfl ⟨by simp [resV, Av.get, Av.put, e1], rfl⟩
  | false =>
    simp only [go_sem, e1]
    exact aret [3] rfl ⟨by simp [resV, Av.get, Av.put, e1], rfl⟩
theorem rollFn_pc (x : Rl) (no : List UInt8) : Pc Tryz.prog 111 [rlA x, .pin 1 [.str no] 0 0] (· = .bool (x.name == no)) := by
  simp only [rlA]
  refine pc_intro (ct_intro Tryz.func111 rfl Tryz.ntmps111 hB111 (by simp) fun h ρ w => goB (N := 8) Tryz.ntmps111 300 ?_)
  simp only [go_sem]
  exact aret [3] rfl ⟨rfl, rfl⟩
def rlZ : Rl := ⟨[], 0, 0, 0, 0⟩
theorem rollOfR_pc (r : Rl) (rs : List Rl) (hl : rs.length ≤ 200) (hn : (r.name == []) = false) : Pc Tryz.prog 157 [.fz 5 ((r :: rs).map rlA), .str r.name] (· = .tup [rlA r, .bool true]) := by
  have hi := idxRl_pc 216 [.pin 1 [.str r.name] 0 0] rfl (fun y => y.name == r.name && r.name != []) (r :: rs) (by simp; omega) (fun y _ => rollFnR_pc y r.name)
  have e1 : idxP (fun y : Rl => y.name == r.name && r.name != []) (r :: rs) = 0 := by
    have := idxP_some (p := fun y : Rl => y.name == r.name && r.name != []) (l := r :: rs) (i := 0) (by simp) (by simp [bne, hn]) (fun j hj => absurd hj (by omega))
    simpa using this
  rw [e1] at hi
  simp only [List.map_cons, rlA] at hi ⊢
  refine pc_intro (ct_intro Tryz.func157 rfl Tryz.ntmps157 hB157 (by simp) fun h ρ w => goB (N := 17) Tryz.ntmps157 300 ?_)
  simp only [go_sem]
  refine pcall1 (hi) rfl (N := 17) Tryz.ntmps157 rfl (goB (N := 17) Tryz.ntmps157 300 ?_)
  simp only [go_sem, List.length_map, List.length_cons]
  repeat refine And.intro (by first | omega | rfl | (simp; done) | (simp; omega)) ?_
  exact aretc [.cell 4 67, .tmp 5] rfl [_, _] ⟨by simp only [go_sem, sideIs], by simp only [go_sem, sideIs], trivial⟩ ⟨rfl, rfl⟩
theorem idx_none (l : List Rl) : idxP (fun y : Rl => y.name == [] && ([] : List UInt8) != []) l = -1 := idxP_none fun j hj => by simp
theorem rollOfRE_pc (l : List Rl) (hl : l.length ≤ 200) : Pc Tryz.prog 157 [.fz 5 (l.map rlA), .str []] (· = .tup [rlA rlZ, .bool false]) := by
  have hi := idxRl_pc 216 [.pin 1 [.str []] 0 0] rfl (fun y => y.name == [] && ([] : List UInt8) != []) l (by omega) (fun y _ => rollFnR_pc y [])
  rw [idx_none] at hi
  refine pc_intro (ct_intro Tryz.func157 rfl Tryz.ntmps157 hB157 (by simp) fun h ρ w => goB (N := 17) Tryz.ntmps157 300 ?_)
  simp only [go_sem]
  refine pcall1 (hi) rfl (N := 17) Tryz.ntmps157 rfl (goB (N := 17) Tryz.ntmps157 300 ?_)
  simp only [go_sem]
  exact aretc [.cell 4 67, .tmp 5] rfl [_, _] ⟨by simp only [go_sem, sideIs, rlA, rlZ], by simp only [go_sem, sideIs], trivial⟩ ⟨rfl, rfl⟩
theorem rollOf_pc (r : Rl) (rs : List Rl) (hl : rs.length ≤ 200) : Pc Tryz.prog 58 [.fz 5 ((r :: rs).map rlA), .str r.name] (· = .tup [rlA r, .bool true]) := by
  have hi := idxRl_pc 111 [.pin 1 [.str r.name] 0 0] rfl (fun y => y.name == r.name) (r :: rs) (by simp; omega) (fun y _ => rollFn_pc y r.name)
  have e1 : idxP (fun y : Rl => y.name == r.name) (r :: rs) = 0 := by
    have := idxP_some (p := fun y : Rl => y.name == r.name) (l := r :: rs) (i := 0) (by simp) (by simp) (fun j hj => absurd hj (by omega))
    simpa using this
  rw [e1] at hi
  simp only [List.map_cons, rlA] at hi ⊢
  refine pc_intro (ct_intro Tryz.func58 rfl Tryz.ntmps58 hB58 (by simp) fun h ρ w => goB (N := 17) Tryz.ntmps58 300 ?_)
  simp only [go_sem]
  refine pcall1 (hi) rfl (N := 17) Tryz.ntmps58 rfl (goB (N := 17) Tryz.ntmps58 300 ?_)
  simp only [go_sem, List.length_map, List.length_cons]
  repeat refine And.intro (by first | omega | rfl | (simp; done) | (simp; omega)) ?_
  exact aretc [.cell 4 67, .tmp 5] rfl [_, _] ⟨by simp only [go_sem, sideIs], by simp only [go_sem, sideIs], trivial⟩ ⟨rfl, rfl⟩
theorem rollOfE_pc (l : List Rl) (hl : l.length ≤ 200) (hn : ∀ x ∈ l, (x.name == []) = false) : Pc Tryz.prog 58 [.fz 5 (l.map rlA), .str []] (· = .tup [rlA rlZ, .bool false]) := by
  have hi := idxRl_pc 111 [.pin 1 [.str []] 0 0] rfl (fun y => y.name == []) l (by omega) (fun y _ => rollFn_pc y [])
  rw [idxP_none (fun j hj => hn _ (List.getElem_mem hj))] at hi
  refine pc_intro (ct_intro Tryz.func58 rfl Tryz.ntmps58 hB58 (by simp) fun h ρ w => goB (N := 17) Tryz.ntmps58 300 ?_)
  simp only [go_sem]
  refine pcall1 (hi) rfl (N := 17) Tryz.ntmps58 rfl (goB (N := 17) Tryz.ntmps58 300 ?_)
  simp only [go_sem]
  exact aretc [.cell 4 67, .tmp 5] rfl [_, _] ⟨by simp only [go_sem, sideIs, rlA, rlZ], by simp only [go_sem, sideIs], trivial⟩ ⟨rfl, rfl⟩
def holdsB (r : Rl) (a b : Int) : Bool := (decide (r.start ≤ a) && decide (a < b)) && decide (b ≤ r.start + r.long)
theorem holdsR_pc (r : Rl) (a b : Int) (h1 : 0 ≤ r.start ∧ r.start ≤ 10000000) (h2 : 0 ≤ r.long ∧ r.long ≤ 10000000) : Pc Tryz.prog 161 [rlA r, .int .i64 a, .int .i64 b] (· = .bool (holdsB r a b)) := by
  unfold holdsB
  simp only [rlA]
  refine pc_intro (ct_intro Tryz.func161 rfl Tryz.ntmps161 hB161 (by simp) fun h ρ w => goB (N := 25) Tryz.ntmps161 300 ?_)
  cases e1 : decide (r.start ≤ a) with
  | false =>
    simp only [go_sem, e1]
    exact aret [6] rfl ⟨by simp [resV, Av.get, Av.put], rfl⟩
  | true =>
    cases e2 : decide (a < b) with
    | false =>
      simp only [go_sem, e1, e2]
      exact aret [6] rfl ⟨by simp [resV, Av.get, Av.put], rfl⟩
    | true =>
      simp only [go_sem, e1, e2]
      repeat refine And.intro (by first | omega | rfl | (simp; done) | (simp; omega)) ?_
      exact aret [6] rfl ⟨by simp [resV, Av.get, Av.put], rfl⟩
theorem within_pc (r : Rl) (a b : Int) (h1 : 0 ≤ r.start ∧ r.start ≤ 10000000) (h2 : 0 ≤ r.long ∧ r.long ≤ 10000000) : Pc Tryz.prog 95 [rlA r, .int .i64 a, .int .i64 b] (· = .bool (holdsB r a b)) := by
  unfold holdsB
  simp only [rlA]
  refine pc_intro (ct_intro Tryz.func95 rfl Tryz.ntmps95 hB95 (by simp) fun h ρ w => goB (N := 25) Tryz.ntmps95 300 ?_)
  cases e1 : decide (r.start ≤ a) with
  | false =>
    simp only [go_sem, e1]
    exact aret [6] rfl ⟨by simp [resV, Av.get, Av.put], rfl⟩
  | true =>
    cases e2 : decide (a < b) with
    | false =>
      simp only [go_sem, e1, e2]
      exact aret [6] rfl ⟨by simp [resV, Av.get, Av.put], rfl⟩
    | true =>
      simp only [go_sem, e1, e2]
      repeat refine And.intro (by first | omega | rfl | (simp; done) | (simp; omega)) ?_
      exact aret [6] rfl ⟨by simp [resV, Av.get, Av.put], rfl⟩
theorem setupR_pc : Pc Tryz.prog 158 [.str []] (· = .bool true) := by
  have h3 := madeR_pc [] [65, 66, 67, 68, 69, 70, 71, 72, 74, 75, 76, 77, 78, 80, 81, 82, 83, 84, 85, 86, 87, 88, 89, 90] (by decide) (by decide) (ascii_set (by decide))
  rw [show madeR [] [65, 66, 67, 68, 69, 70, 71, 72, 74, 75, 76, 77, 78, 80, 81, 82, 83, 84, 85, 86, 87, 88, 89, 90] = true from rfl] at h3
  refine pc_intro (ct_intro Tryz.func158 rfl Tryz.ntmps158 hB158 (by simp) fun h ρ w => goB (N := 10) Tryz.ntmps158 300 ?_)
  simp only [go_sem]
  refine pcall1 (h3) rfl (N := 10) Tryz.ntmps158 rfl (goB (N := 10) Tryz.ntmps158 300 ?_)
  simp only [go_sem]
  exact aret [2] rfl ⟨rfl, rfl⟩
def dupB (t y : Tk) : Bool := (y.scene == t.scene && y.setup == t.setup) && y.number == t.number
def busyB (t y : Tk) : Bool := (y.roll == t.roll && decide (y.inn < t.out)) && decide (t.inn < y.out)
theorem dupR_pc (y t : Tk) : Pc Tryz.prog 160 [tkA y, .pin 9 [tkA t] 0 0] (· = .bool (dupB t y)) := by
  unfold dupB
  simp only [tkA]
  refine pc_intro (ct_intro Tryz.func160 rfl Tryz.ntmps160 hB160 (by simp) fun h ρ w => goB (N := 23) Tryz.ntmps160 300 ?_)
  cases e1 : y.scene == t.scene with
  | false =>
    simp only [go_sem, e1]
    exact aret [3] rfl ⟨by simp [resV, Av.get, Av.put], rfl⟩
  | true =>
    cases e2 : y.setup == t.setup with
    | false =>
      simp only [go_sem, e1, e2]
      exact aret [3] rfl ⟨by simp [resV, Av.get, Av.put], rfl⟩
    | true =>
      simp only [go_sem, e1, e2]
      exact aret [3] rfl ⟨by simp [resV, Av.get, Av.put], rfl⟩
theorem busyR_pc (y t : Tk) : Pc Tryz.prog 162 [tkA y, .pin 9 [tkA t] 0 0] (· = .bool (busyB t y)) := by
  unfold busyB
  simp only [tkA]
  refine pc_intro (ct_intro Tryz.func162 rfl Tryz.ntmps162 hB162 (by simp) fun h ρ w => goB (N := 23) Tryz.ntmps162 300 ?_)
  cases e1 : y.roll == t.roll with
  | false =>
    simp only [go_sem, e1]
    exact aret [3] rfl ⟨by simp [resV, Av.get, Av.put], rfl⟩
  | true =>
    cases e2 : decide (y.inn < t.out) with
    | false =>
      simp only [go_sem, e1, e2]
      exact aret [3] rfl ⟨by simp [resV, Av.get, Av.put], rfl⟩
    | true =>
      simp only [go_sem, e1, e2]
      exact aret [3] rfl ⟨by simp [resV, Av.get, Av.put], rfl⟩
/-- a cover after the one before it -/
def CvAt (t : Tk) (np : Nat) (j : Nat) (c : Cv) : Prop :=
  (0 ≤ c.para ∧ c.para < np) ∧ (0 < j → ∀ p, t.covers[j - 1]? = some p → p.para < c.para ∧ p.out ≤ c.inn) ∧ t.inn ≤ c.inn ∧ c.inn < c.out ∧ c.out ≤ t.out
/-- a right take among others -/
structure TkAt (x : Sr) (r : Rl) (l : List Tk) (k : Nat) (t : Tk) : Prop where
  scene : 0 ≤ sceneIx x t.scene
  dup : ((l.take k).any (dupB t)) = false
  hold : holdsB r t.inn t.out = true
  busy : ((l.take k).any (busyB t)) = false
  cov : ∀ (i : Nat) (h : i < x.scenes.length), sceneIx x t.scene = i → ∀ j c, t.covers[j]? = some c → CvAt t x.scenes[i].paras.length j c
structure TakesOk (x : Sr) (r : Rl) (l : List Tk) : Prop where
  len : l.length ≤ 3000
  at' : ∀ k t, l[k]? = some t → TkAt x r l k t
theorem TakesOk.no {x : Sr} {r : Rl} {l : List Tk} {i : Nat} {t : Tk} (hi : l[i]? = some t) (h : ¬ TkAt x r l i t) : ¬ TakesOk x r l := fun c => h (c.at' i t hi)
theorem sceneIx_bd (x : Sr) (no : List UInt8) : sceneIx x no < 0 ∨ ∃ i, (i < x.scenes.length) ∧ sceneIx x no = ((i : Nat) : Int) := by
  unfold sceneIx idxP
  cases hq : x.scenes.findIdx? (fun y => y.no == no && no != []) with
  | none => left; decide
  | some i =>
    right
    exact ⟨i, (List.findIdx?_eq_some_iff_getElem.1 hq).1, rfl⟩

set_option maxHeartbeats 8000000 in
theorem takeR_pc (x : Sr) (hx : StoryOk x) (r : Rl) (rs : List Rl) (hr : RollsOk (r :: rs)) (hne : (r.name == []) = false) (l : List Tk) (hl : ∀ t ∈ l, TkB r t) (hll : l.length ≤ 20) (k : Nat) (hk : k < l.length) :
    Pc Tryz.prog 93 [srA x, .fz 5 ((r :: rs).map rlA), .fz 9 (l.map tkA), .int .i64 k] (fun v => ∃ n : Int, v = .int .i64 n ∧ (n = 0 ↔ TkAt x r l k l[k])) := by
  have hlen := hx.len
  have hrl := hr.len
  simp only [List.length_cons] at hrl
  obtain ⟨hro, _⟩ := hr.at' 0 r rfl
  have hrs := hro.start
  have hrg := hro.long
  have hdb : 0 ≤ dayR r.rate ∧ dayR r.rate ≤ 2592000 := by
    have := hro.rate
    obtain h | h | h | h : r.rate = 1 ∨ r.rate = 2 ∨ r.rate = 3 ∨ r.rate = 4 := by omega
    all_goals rw [h]; decide
  obtain ⟨t, ht⟩ : ∃ t, t = l[k] := ⟨_, rfl⟩
  have hb := hl l[k] (List.getElem_mem hk)
  have hgt := tkA_get l k hk
  rw [← ht] at hb hgt ⊢
  have b1 := hb.setup
  have b2 := hb.number
  have b3 := hb.roll
  have b4 := hb.sound
  have b5 := hb.inn
  have b6 := hb.out
  have b7 := hb.len
  have b8 := hb.cov
  have hret : ∀ (n : Int), n ≠ 0 → ¬ TkAt x r l k t → ∃ m : Int, AV.int .i64 n = .int .i64 m ∧ (m = 0 ↔ TkAt x r l k t) := fun n hn hc => ⟨n, rfl, ⟨fun h => absurd h hn, fun h => absurd h hc⟩⟩
  have hsa := sceneAt_pc x t.scene hlen
  have hro1 := rollOfR_pc r rs (by omega) hne
  have hro2 := rollOfRE_pc (r :: rs) (by simp; omega)
  have hset := setupR_pc
  have hhold := holdsR_pc r t.inn t.out ⟨by omega, by omega⟩ ⟨by omega, by omega⟩
  have hany1 := anyTk_pc 160 [.pin 9 [tkA t] 0 0] rfl (dupB t) (l.take k) (by rw [List.length_take]; omega) (fun y _ => dupR_pc y t)
  have hany2 := anyTk_pc 162 [.pin 9 [tkA t] 0 0] rfl (busyB t) (l.take k) (by rw [List.length_take]; omega) (fun y _ => busyR_pc y t)
  rw [List.map_take] at hany1 hany2
  have hk2 : decide ((k : Int) ≤ (l.length : Int)) = true := by simp; omega
  have n1 : decide (t.number < 1) = false := by simp; omega
  have n2 : decide (t.number > 99) = false := by simp; omega
  have hbor1 := Ct.borrowF (P := Tryz.prog) (f := 159) (args := [.fz 9 (List.take k (l.map tkA)), .fn (.func 160) [.ptr 0 1 0 0]]) 1 [.arr 9 [tkA t], .arr 5 [rlA r], .arr 5 [rlA rlZ]] hany1 (by rintro r rfl; rfl)
  have hbor2 := Ct.borrowF (P := Tryz.prog) (f := 159) (args := [.fz 9 (List.take k (l.map tkA)), .fn (.func 162) [.ptr 0 1 0 0]]) 1 [.arr 9 [tkA t], .arr 5 [rlA r], .arr 5 [rlA rlZ]] hany2 (by rintro r rfl; rfl)
  have hbad := sceneIx_bd x t.scene
  generalize hsi : sceneIx x t.scene = si at *
  simp only [tkA, rlA, rlZ, b1, b3, b4] at hbor1 hbor2 hgt hro1 hro2 hhold hsa
  simp only [srA, List.map_cons, rlA] at hsa hro1 hro2 ⊢
  refine pc_intro (ct_intro Tryz.func93 rfl Tryz.ntmps93 hB93 (by simp) fun h ρ w => goB (N := 160) Tryz.ntmps93 300 ?_)
  simp only [go_sem, hgt, List.length_map]
  repeat refine And.intro (by first | omega | rfl | (simp; done) | (simp; omega)) ?_
  refine pcall1 (hsa) rfl (N := 160) Tryz.ntmps93 rfl (goB (N := 160) Tryz.ntmps93 300 ?_)
  simp only [go_sem]
  refine pcall1 (hro1) rfl (N := 160) Tryz.ntmps93 rfl (goB (N := 160) Tryz.ntmps93 300 ?_)
  simp only [go_sem]
  refine pcall1 (hro2) rfl (N := 160) Tryz.ntmps93 rfl (goB (N := 160) Tryz.ntmps93 300 ?_)
  cases e1 : decide (si < 0) with
  | true =>
    simp only [go_sem, e1]
    exact aret [8] rfl ⟨hret 8 (by decide) (fun h => by have := h.scene; simp at e1; omega), rfl⟩
  | false =>
    obtain ⟨i, hi, hii⟩ := hbad.resolve_left (by simpa using e1)
    simp only [go_sem, e1]
    refine pcall1 (hset) rfl (N := 160) Tryz.ntmps93 rfl (goB (N := 160) Tryz.ntmps93 300 ?_)
    simp only [go_sem, n1, n2, hk2, List.length_map]
    repeat refine And.intro (by first | omega | rfl | (simp; done) | (simp; omega)) ?_
    refine acall (hbor1) (N := 160) Tryz.ntmps93 rfl ?_
    rintro _ _ ⟨rfl, rfl⟩
    refine goB (N := 160) Tryz.ntmps93 300 ?_
    cases e2 : (l.take k).any (dupB t) with
    | true =>
      simp only [go_sem]
      exact aret [8] rfl ⟨hret 6 (by decide) (fun h => by rw [h.dup] at e2; cases e2), rfl⟩
    | false =>
      simp only [go_sem]
      refine pcall1 (hhold) rfl (N := 160) Tryz.ntmps93 rfl (goB (N := 160) Tryz.ntmps93 300 ?_)
      cases e3 : holdsB r t.inn t.out with
      | false =>
        simp only [go_sem]
        exact aret [8] rfl ⟨hret 1 (by decide) (fun h => by rw [h.hold] at e3; cases e3), rfl⟩
      | true =>
        simp only [go_sem, hk2, List.length_map]
        repeat refine And.intro (by first | omega | rfl | (simp; done) | (simp; omega)) ?_
        refine acall (hbor2) (N := 160) Tryz.ntmps93 rfl ?_
        rintro _ _ ⟨rfl, rfl⟩
        refine goB (N := 160) Tryz.ntmps93 300 ?_
        cases e4 : (l.take k).any (busyB t) with
        | true =>
          simp only [go_sem]
          exact aret [8] rfl ⟨hret 12 (by decide) (fun h => by rw [h.busy] at e4; cases e4), rfl⟩
        | false =>
          obtain ⟨np, hnp⟩ : ∃ np, np = x.scenes[i].paras.length := ⟨_, rfl⟩
          have hgs := scA_get x.scenes i hi
          have hpl : ((x.scenes[i].paras.map paA).length : Int) = np := by rw [hnp]; simp
          have hnp60 : np ≤ 60 := by rw [hnp]; exact (hx.all i hi).len
          have hbadc : ∀ j c, t.covers[j]? = some c → ¬ CvAt t np j c → ¬ TkAt x r l k t := fun j c hc hn h => hn (by rw [hnp]; exact h.cov i hi (by rw [hsi, hii]) j c hc)
          have hgood : (∀ j c, t.covers[j]? = some c → CvAt t np j c) → TkAt x r l k t := fun h => ⟨by rw [hsi, hii]; omega, e2, e3, e4, fun i' hi' he j c hc => by
            rw [hsi, hii] at he
            have : i' = i := by omega
            subst this
            rw [← hnp]
            exact h j c hc⟩
          simp only [go_sem, List.length_map]
          refine aloop (ι := Nat) (fun y => t.covers.length - y)
            (fun y => [(91, .int .i64 y), (90, .int .i64 t.covers.length), (89, .fz 4 (t.covers.map cvA)), (10, .int .i64 si), (9, .ptr 0 1 0 0), (4, .pin 2 [.agg [.str x.title, .fz 5 (x.scenes.map scA)]] 0 0)])
            (fun _ => [.arr 9 [.agg [.str t.scene, .str [], .int .i64 t.number, .str r.name, .str [], .int .i64 t.inn, .int .i64 t.out, .bool t.good, .fz 4 (t.covers.map cvA)]], .arr 5 [.agg [.str r.name, .int .i64 r.rate, .int .i64 r.start, .int .i64 r.long, .int .i64 r.drift]], .arr 5 [.agg [.str [], .int .i64 0, .int .i64 0, .int .i64 0, .int .i64 0]]])
            (fun y => y ≤ t.covers.length ∧ ∀ j c, j < y → t.covers[j]? = some c → CvAt t np j c) 0 ⟨by simp, fun j c h => absurd h (by omega)⟩ ?_ ?_
          · refine Shift.weakS ?_ rfl
            simp only [wk, go_sem, List.length_map]
          rintro j ⟨g1, g2⟩ J hJ
          by_cases gj : j < t.covers.length
          · have dj : decide ((j : Int) < (t.covers.length : Int)) = true := by simp; omega
            have hcj : t.covers[j]? = some t.covers[j] := List.getElem?_eq_getElem gj
            have hgc := cvA_get t.covers j gj
            have hcb := b8 _ (List.getElem_mem gj)
            have hgp : 0 < j → ∃ q, t.covers[j - 1]? = some q ∧ List.getD (List.map cvA t.covers) (j - 1) .any = .agg [.int .i64 q.para, .int .i64 q.inn, .int .i64 q.out, .bool q.on] := fun h0 => ⟨t.covers[j - 1], List.getElem?_eq_getElem (by omega), cvA_get t.covers (j - 1) (by omega)⟩
            generalize t.covers[j] = c at *
            have hbc := hbadc j c hcj
            have hfin : CvAt t np j c → ∀ a w, Sim _ _ _ a w → J a w := fun hc => hJ (j + 1) ⟨by omega, fun j' c' hj' hc' => by
              rcases Nat.lt_or_ge j' j with h2 | h2
              · exact g2 j' c' h2 hc'
              · have : j' = j := by omega
                subst this
                rw [hcj] at hc'
                cases hc'
                exact hc⟩ (by omega)
            have hsit : si.toNat = i := by omega
            have hj1 : ((j : Int) - 1).toNat = j - 1 := by omega
            have hsi0 : 0 ≤ si := by omega
            have hsi5 : si < (x.scenes.length : Int) := by omega
            refine goB (N := 160) Tryz.ntmps93 300 ?_
            simp only [go_sem, dj, hgc, List.length_map]
            repeat refine And.intro (by first | omega | rfl | (simp; done) | (simp; omega)) ?_
            cases f1 : decide (c.para < 0) with
            | true =>
              refine adraw [] mixed (by decide) (N := 160) Tryz.ntmps93 (by decide) 100 ?_
              simp only [go_sem, f1]
              repeat refine And.intro (by first | omega | rfl | (simp; done) | (simp; omega)) ?_
              refine goB (N := 160) Tryz.ntmps93 300 ?_
              simp only [go_sem]
              exact aret [8] rfl ⟨hret 8 (by decide) (hbc fun h => by have := h.1; simp at f1; omega), rfl⟩
            | false =>
              cases f2 : decide (c.para ≥ (np : Int)) with
              | true =>
                refine adraw [] mixed (by decide) (N := 160) Tryz.ntmps93 (by decide) 100 ?_
                simp only [go_sem, f1, hgs, hpl, f2, hsit, List.length_map]
                rw [← hnp]
                simp only [go_sem, f1, f2]
                repeat refine And.intro (by first | omega | rfl | (simp; done) | (simp; omega)) ?_
                refine goB (N := 160) Tryz.ntmps93 300 ?_
                simp only [go_sem]
                exact aret [8] rfl ⟨hret 8 (by decide) (hbc fun h => by have := h.1; simp at f2; omega), rfl⟩
              | false =>
                refine adraw [] mixed (by decide) (N := 160) Tryz.ntmps93 (by decide) 100 ?_
                simp only [go_sem, f1, hgs, hpl, f2, hsit, List.length_map]
                rw [← hnp]
                simp only [go_sem, f1, f2]
                repeat refine And.intro (by first | omega | rfl | (simp; done) | (simp; omega)) ?_
                refine goB (N := 160) Tryz.ntmps93 300 ?_
                simp only [go_sem]
                by_cases hj0 : 0 < j
                · obtain ⟨q, hq, hgq⟩ := hgp hj0
                  have q0 : decide ((j : Int) > 0) = true := by simp; omega
                  cases f3 : decide (c.para ≤ q.para) with
                  | true =>
                    refine adraw [] mixed (by decide) (N := 160) Tryz.ntmps93 (by decide) 100 ?_
                    simp only [go_sem, q0, hj1, hgq, f3, List.length_map]
                    repeat refine And.intro (by first | omega | rfl | (simp; done) | (simp; omega)) ?_
                    refine goB (N := 160) Tryz.ntmps93 300 ?_
                    simp only [go_sem]
                    exact aret [8] rfl ⟨hret 7 (by decide) (hbc fun h => by have := h.2.1 hj0 q hq; simp at f3; omega), rfl⟩
                  | false =>
                    cases f4 : decide (c.inn < q.out) with
                    | true =>
                      refine adraw [] mixed (by decide) (N := 160) Tryz.ntmps93 (by decide) 100 ?_
                      simp only [go_sem, q0, hj1, hgq, f3, f4, List.length_map]
                      repeat refine And.intro (by first | omega | rfl | (simp; done) | (simp; omega)) ?_
                      refine goB (N := 160) Tryz.ntmps93 300 ?_
                      simp only [go_sem]
                      exact aret [8] rfl ⟨hret 7 (by decide) (hbc fun h => by have := h.2.1 hj0 q hq; simp at f4; omega), rfl⟩
                    | false =>
                      refine adraw [] mixed (by decide) (N := 160) Tryz.ntmps93 (by decide) 100 ?_
                      simp only [go_sem, q0, hj1, hgq, f3, f4, List.length_map]
                      repeat refine And.intro (by first | omega | rfl | (simp; done) | (simp; omega)) ?_
                      have hord : 0 < j → ∀ p, t.covers[j - 1]? = some p → p.para < c.para ∧ p.out ≤ c.inn := fun _ p hp => by rw [hq] at hp; cases hp; simp at f3 f4; omega
                      cases f5 : decide (c.inn < t.inn) with
                      | true =>
                        refine goB (N := 160) Tryz.ntmps93 300 ?_
                        simp only [go_sem, f5]
                        exact aret [8] rfl ⟨hret 1 (by decide) (hbc fun h => by have := h.2.2; simp at f5; omega), rfl⟩
                      | false =>
                        cases f6 : decide (c.inn ≥ c.out) with
                        | true =>
                          refine goB (N := 160) Tryz.ntmps93 300 ?_
                          simp only [go_sem, f5, f6]
                          exact aret [8] rfl ⟨hret 1 (by decide) (hbc fun h => by have := h.2.2; simp at f6; omega), rfl⟩
                        | false =>
                          cases f7 : decide (c.out > t.out) with
                          | true =>
                            refine goB (N := 160) Tryz.ntmps93 300 ?_
                            simp only [go_sem, f5, f6, f7]
                            exact aret [8] rfl ⟨hret 1 (by decide) (hbc fun h => by have := h.2.2; simp at f7; omega), rfl⟩
                          | false =>
                            refine goB (N := 160) Tryz.ntmps93 300 ?_
                            simp only [go_sem, f5, f6, f7]
                            repeat refine And.intro (by first | omega | rfl | (simp; done) | (simp; omega)) ?_
                            rw [show (j : Int) + 1 = ((j + 1 : Nat) : Int) by omega]
                            refine ainv (hfin ⟨by simp at f1 f2; omega, hord, by simp at f5 f6 f7; omega⟩) (Shift.low 3 (by simp) (by simp) ?_ ?_)
                            · simp only [List.take_succ_cons, List.take_zero, List.all_cons, List.all_nil, lowB, flat, cellsOf, lowC, Av.frozen, List.append_nil, List.cons_append, List.nil_append, Bool.and_self]
                            · simp only [wkl, lowV, lowC, Av.get, go_sem]
                · have q0 : decide ((j : Int) > 0) = false := by simp; omega
                  refine adraw [] mixed (by decide) (N := 160) Tryz.ntmps93 (by decide) 100 ?_
                  simp only [go_sem, q0]
                  repeat refine And.intro (by first | omega | rfl | (simp; done) | (simp; omega)) ?_
                  have hord : 0 < j → ∀ p, t.covers[j - 1]? = some p → p.para < c.para ∧ p.out ≤ c.inn := fun h => absurd h hj0
                  cases f5 : decide (c.inn < t.inn) with
                  | true =>
                    refine goB (N := 160) Tryz.ntmps93 300 ?_
                    simp only [go_sem, f5]
                    exact aret [8] rfl ⟨hret 1 (by decide) (hbc fun h => by have := h.2.2; simp at f5; omega), rfl⟩
                  | false =>
                    cases f6 : decide (c.inn ≥ c.out) with
                    | true =>
                      refine goB (N := 160) Tryz.ntmps93 300 ?_
                      simp only [go_sem, f5, f6]
                      exact aret [8] rfl ⟨hret 1 (by decide) (hbc fun h => by have := h.2.2; simp at f6; omega), rfl⟩
                    | false =>
                      cases f7 : decide (c.out > t.out) with
                      | true =>
                        refine goB (N := 160) Tryz.ntmps93 300 ?_
                        simp only [go_sem, f5, f6, f7]
                        exact aret [8] rfl ⟨hret 1 (by decide) (hbc fun h => by have := h.2.2; simp at f7; omega), rfl⟩
                      | false =>
                        refine goB (N := 160) Tryz.ntmps93 300 ?_
                        simp only [go_sem, f5, f6, f7]
                        repeat refine And.intro (by first | omega | rfl | (simp; done) | (simp; omega)) ?_
                        rw [show (j : Int) + 1 = ((j + 1 : Nat) : Int) by omega]
                        refine ainv (hfin ⟨by simp at f1 f2; omega, hord, by simp at f5 f6 f7; omega⟩) (Shift.low 3 (by simp) (by simp) ?_ ?_)
                        · simp only [List.take_succ_cons, List.take_zero, List.all_cons, List.all_nil, lowB, flat, cellsOf, lowC, Av.frozen, List.append_nil, List.cons_append, List.nil_append, Bool.and_self]
                        · simp only [wkl, lowV, lowC, Av.get, go_sem]
          · have dj : decide ((j : Int) < (t.covers.length : Int)) = false := by simp; omega
            refine goB (N := 160) Tryz.ntmps93 300 ?_
            simp only [go_sem, dj]
            exact aret [8] rfl ⟨⟨0, rfl, fun _ => hgood fun j' c hc => g2 j' c (by have := (List.getElem?_eq_some_iff.1 hc).1; omega) hc, fun _ => rfl⟩, rfl⟩
theorem orE_pc (x y : Int) : Pc Tryz.prog 90 [.fz 1 [.int .i64 x, .int .i64 y]] (· = .int .i64 (orI x y)) := by
  refine pc_intro (ct_intro Tryz.func90 rfl Tryz.ntmps90 hB90 (by simp) fun h ρ w => go (N := 18) Tryz.ntmps90 300 ?_)
  simp only [go_sem]
  refine aenter (around (go (N := 18) Tryz.ntmps90 300 ?_))
  by_cases h1 : x = 0
  · have d1 : (x != 0) = false := by simpa using h1
    simp only [go_sem, d1]
    refine aagain (around (go (N := 18) Tryz.ntmps90 300 ?_))
    by_cases h2 : y = 0
    · have d2 : (y != 0) = false := by simpa using h2
      simp only [go_sem, d2]
      refine aagain (around (go (N := 18) Tryz.ntmps90 300 ?_))
      simp only [go_sem]
      exact aret [2] rfl ⟨by simp [resV, Av.get, orI, h1, h2], rfl⟩
    have d2 : (y != 0) = true := by simpa using h2
    simp only [go_sem, d2]
    exact aret [2] rfl ⟨by simp [resV, Av.get, orI, h1], rfl⟩
  have d1 : (x != 0) = true := by simpa using h1
  simp only [go_sem, d1]
  exact aret [2] rfl ⟨by simp [resV, Av.get, orI, h1], rfl⟩
set_option maxHeartbeats 2000000 in
theorem takesR_pch {S : Std} (hS : LibR S) (x : Sr) (hx : StoryOk x) (r : Rl) (rs : List Rl) (hr : RollsOk (r :: rs)) (hn : ∀ y ∈ r :: rs, y.name.length < 100) (hne : (r.name == []) = false) (l : List Tk) (hl : ∀ t ∈ l, TkB r t) (hll : l.length ≤ 20) :
    PcH Tryz.prog S 36 [srA x, .fz 5 ((r :: rs).map rlA), .fz 9 (l.map tkA)] (fun v => ∃ n : Int, v = .int .i64 n ∧ (n = 0 ↔ (scriptR x = 0 ∧ TakesOk x r l))) := by
  have h1 := storyR_pch hS x hx
  have h2 := rollsR_pc (r :: rs) hr.len hn
  have h3 := fun k hk => takeR_pc x hx r rs hr hne l hl hll k hk
  have d1 : decide ((l.length : Int) > 3000) = false := by simp; omega
  simp only [srA, List.map_cons] at h1 h2 h3 ⊢
  refine pch_intro (cth_intro Tryz.func36 rfl Tryz.ntmps36 hB36 (by simp) fun h ρ w hg => goB (N := 36) Tryz.ntmps36 300 ?_)
  simp only [go_sem]
  refine pcallH1 hg (h1) rfl (N := 36) Tryz.ntmps36 rfl (goB (N := 36) Tryz.ntmps36 300 ?_)
  simp only [go_sem]
  refine pcall (h2) rfl (N := 36) Tryz.ntmps36 rfl ?_
  rintro _ ⟨n, rfl, hnn⟩
  have hn0 := hnn.2 hr
  subst hn0
  refine goB (N := 36) Tryz.ntmps36 300 ?_
  simp only [go_sem]
  refine pcall1 (orE_pc (scriptR x) 0) rfl (N := 36) Tryz.ntmps36 rfl (goB (N := 36) Tryz.ntmps36 300 ?_)
  have ho : orI (scriptR x) 0 = scriptR x := by unfold orI; split <;> omega
  rw [ho]
  cases e1 : scriptR x != 0 with
  | true =>
    simp only [go_sem, e1]
    exact aret [6] rfl ⟨⟨_, rfl, ⟨fun h => by simp [h] at e1, fun h => by simp [h.1] at e1⟩⟩, rfl⟩
  | false =>
    have e1' : scriptR x = 0 := by simpa using e1
    simp only [go_sem, e1, d1, List.length_map]
    refine aloop (ι := Nat) (fun y => l.length - y)
      (fun y => [(24, .int .i64 y), (23, .int .i64 l.length), (3, .pin 2 [.agg [.str x.title, .fz 5 (x.scenes.map scA)]] 0 0), (1, .fz 5 (rlA r :: rs.map rlA)), (2, .fz 9 (l.map tkA))])
      (fun y => []) (fun y => y ≤ l.length ∧ ∀ j t, j < y → l[j]? = some t → TkAt x r l j t) 0 ⟨by simp, fun j _ h => absurd h (by omega)⟩ ?_ ?_
    · refine Shift.weakS ?_ rfl
      simp only [wk, go_sem, List.length_map]
    · rintro i ⟨g1, g2⟩ J hJ
      by_cases gi : i < l.length
      · have di : decide ((i : Int) < (l.length : Int)) = true := by simp; omega
        have hxi : l[i]? = some l[i] := List.getElem?_eq_getElem gi
        refine goB (N := 36) Tryz.ntmps36 300 ?_
        simp only [go_sem, di]
        refine pcall (h3 i gi) rfl (N := 36) Tryz.ntmps36 rfl ?_
        rintro _ ⟨n, rfl, hnn⟩
        refine goB (N := 36) Tryz.ntmps36 300 ?_
        cases e2 : n != 0 with
        | true =>
          simp only [go_sem, e2]
          exact aret [6] rfl ⟨⟨_, rfl, ⟨fun h => by simp [h] at e2, fun h => by have := hnn.2 (h.2.at' i _ hxi); simp [this] at e2⟩⟩, rfl⟩
        | false =>
          have hok := hnn.1 (by simpa using e2)
          simp only [go_sem, e2]
          repeat refine And.intro (by first | omega | rfl | (simp; done) | (simp; omega)) ?_
          rw [show (i : Int) + 1 = ((i + 1 : Nat) : Int) by omega]
          refine ainv (hJ (i + 1) ⟨by omega, fun j t hj ht => by
            rcases Nat.lt_or_ge j i with h2 | h2
            · exact g2 j t h2 ht
            · have : j = i := by omega
              subst this
              rw [hxi] at ht
              cases ht
              exact hok⟩ (by omega)) (Shift.weakS ?_ rfl)
          simp only [wk, go_sem]
      · have di : decide ((i : Int) < (l.length : Int)) = false := by simp; omega
        refine goB (N := 36) Tryz.ntmps36 300 ?_
        simp only [go_sem, di]
        exact aret [6] rfl ⟨⟨0, rfl, ⟨fun _ => ⟨e1', by omega, fun j t hj => g2 j t (by have := (List.getElem?_eq_some_iff.1 hj).1; omega) hj⟩, fun _ => rfl⟩⟩, rfl⟩
end Go.Proofs.YtkfpiadgjbhcpaaGreatDoor
