/- The reference's faults of takes. Own work of this seat. -/
import Derived.Test.YtkfpiadgjbhcpaaGreatDoorA38
import Derived.Test.YtkfpiadgjbhcpaaGreatDoorA22
set_option maxRecDepth 100000
set_option linter.unusedSimpArgs false
set_option linter.unusedVariables false
namespace Go.Proofs.YtkfpiadgjbhcpaaGreatDoor
open Go Go.Av Go.RowKit

theorem sceneAtFn_pc (x : Sc) (no : List UInt8) : Pc Tryz.prog 215 [scA x, .pin 1 [.str no] 0 0] (· = .bool (x.no == no && no != [])) := by
  simp only [scA]
  refine pc_intro (ct_intro Tryz.func215 rfl Tryz.ntmps215 hB215 (by simp) fun h ρ w => goB (N := 12) Tryz.ntmps215 300 ?_)
  cases e1 : x.no == no with
  | true =>
    simp only [go_sem, e1]
    exact aret [3] rfl ⟨by simp [resV, Av.get, Av.put, e1], rfl⟩
  | false =>
    simp only [go_sem, e1]
    exact aret [3] rfl ⟨by simp [resV, Av.get, Av.put, e1], rfl⟩
def sceneIx (x : Sr) (no : List UInt8) : Int := idxP (fun y => y.no == no && no != []) x.scenes
theorem sceneAt_pc (x : Sr) (no : List UInt8) (hl : x.scenes.length ≤ 5) : Pc Tryz.prog 156 [srA x, .str no] (· = .int .i64 (sceneIx x no)) := by
  have hi := idxSc_pc 215 [.pin 1 [.str no] 0 0] rfl (fun y => y.no == no && no != []) x.scenes (by omega) (fun y _ => sceneAtFn_pc y no)
  simp only [srA]
  refine pc_intro (ct_intro Tryz.func156 rfl Tryz.ntmps156 hB156 (by simp) fun h ρ w => goB (N := 9) Tryz.ntmps156 300 ?_)
  simp only [go_sem]
  refine pcall1 (hi) rfl (N := 9) Tryz.ntmps156 rfl (goB (N := 9) Tryz.ntmps156 300 ?_)
  simp only [go_sem]
  exact aret [4] rfl ⟨rfl, rfl⟩
theorem rollFnR_pc (x : Rl) (no : List UInt8) : Pc Tryz.prog 216 [rlA x, .pin 1 [.str no] 0 0] (· = .bool (x.name == no && no != [])) := by
  simp only [rlA]
  refine pc_intro (ct_intro Tryz.func216 rfl Tryz.ntmps216 hB216 (by simp) fun h ρ w => goB (N := 12) Tryz.ntmps216 300 ?_)
  cases e1 : x.name == no with
  | true =>
    simp only [go_sem, e1]
    exact aret [3] rfl ⟨by simp [resV, Av.get, Av.put, e1], rfl⟩
  | false =>
    simp only [go_sem, e1]
    exact aret [3] rfl ⟨by simp [resV, Av.get, Av.put, e1], rfl⟩
theorem rollFn_pc (x : Rl) (no : List UInt8) : Pc Tryz.prog 111 [rlA x, .pin 1 [.str no] 0 0] (· = .bool (x.name == no)) := by
  simp only [rlA]
  refine pc_intro (ct_intro Tryz.func111 rfl Tryz.ntmps111 hB111 (by simp) fun h ρ w => goB (N := 8) Tryz.ntmps111 300 ?_)
  simp only [go_sem]
  exact aret [3] rfl ⟨rfl, rfl⟩
def rlZ : Rl := ⟨[], 0, 0, 0, 0⟩
theorem rollOfR_pc (r : Rl) (rs : List Rl) (hl : rs.length ≤ 200) (hn : (r.name == []) = false) : Pc Tryz.prog 157 [.fz 5 ((r :: rs).map rlA), .str r.name] (· = .tup [rlA r, .bool true]) := by
  have hi := idxRl_pc 216 [.pin 1 [.str r.name] 0 0] rfl (fun y => y.name == r.name && r.name != []) (r :: rs) (by simp; omega) (fun y _ => rollFnR_pc y r.name)
  have e1 : idxP (fun y : Rl => y.name == r.name && r.name != []) (r :: rs) = 0 := by
    have := idxP_some (p := fun y : Rl => y.name == r.name && r.name != []) (l := r :: rs) (i := 0) (by simp) (by simp [bne, hn]) (fun j hj => absurd hj (by omega))
    simpa using this
  rw [e1] at hi
  simp only [List.map_cons, rlA] at hi ⊢
  refine pc_intro (ct_intro Tryz.func157 rfl Tryz.ntmps157 hB157 (by simp) fun h ρ w => goB (N := 17) Tryz.ntmps157 300 ?_)
  simp only [go_sem]
  refine pcall1 (hi) rfl (N := 17) Tryz.ntmps157 rfl (goB (N := 17) Tryz.ntmps157 300 ?_)
  simp only [go_sem, List.length_map, List.length_cons]
  repeat refine And.intro (by first | omega | rfl | (simp; done) | (simp; omega)) ?_
  exact aretc [.cell 4 67, .tmp 5] rfl [_, _] ⟨by simp only [go_sem, sideIs], by simp only [go_sem, sideIs], trivial⟩ ⟨rfl, rfl⟩
theorem idx_none (l : List Rl) : idxP (fun y : Rl => y.name == [] && ([] : List UInt8) != []) l = -1 := idxP_none fun j hj => by simp
theorem rollOfRE_pc (l : List Rl) (hl : l.length ≤ 200) : Pc Tryz.prog 157 [.fz 5 (l.map rlA), .str []] (· = .tup [rlA rlZ, .bool false]) := by
  have hi := idxRl_pc 216 [.pin 1 [.str []] 0 0] rfl (fun y => y.name == [] && ([] : List UInt8) != []) l (by omega) (fun y _ => rollFnR_pc y [])
  rw [idx_none] at hi
  refine pc_intro (ct_intro Tryz.func157 rfl Tryz.ntmps157 hB157 (by simp) fun h ρ w => goB (N := 17) Tryz.ntmps157 300 ?_)
  simp only [go_sem]
  refine pcall1 (hi) rfl (N := 17) Tryz.ntmps157 rfl (goB (N := 17) Tryz.ntmps157 300 ?_)
  simp only [go_sem]
  exact aretc [.cell 4 67, .tmp 5] rfl [_, _] ⟨by simp only [go_sem, sideIs, rlA, rlZ], by simp only [go_sem, sideIs], trivial⟩ ⟨rfl, rfl⟩
theorem rollOf_pc (r : Rl) (rs : List Rl) (hl : rs.length ≤ 200) : Pc Tryz.prog 58 [.fz 5 ((r :: rs).map rlA), .str r.name] (· = .tup [rlA r, .bool true]) := by
  have hi := idxRl_pc 111 [.pin 1 [.str r.name] 0 0] rfl (fun y => y.name == r.name) (r :: rs) (by simp; omega) (fun y _ => rollFn_pc y r.name)
  have e1 : idxP (fun y : Rl => y.name == r.name) (r :: rs) = 0 := by
    have := idxP_some (p := fun y : Rl => y.name == r.name) (l := r :: rs) (i := 0) (by simp) (by simp) (fun j hj => absurd hj (by omega))
    simpa using this
  rw [e1] at hi
  simp only [List.map_cons, rlA] at hi ⊢
  refine pc_intro (ct_intro Tryz.func58 rfl Tryz.ntmps58 hB58 (by simp) fun h ρ w => goB (N := 17) Tryz.ntmps58 300 ?_)
  simp only [go_sem]
  refine pcall1 (hi) rfl (N := 17) Tryz.ntmps58 rfl (goB (N := 17) Tryz.ntmps58 300 ?_)
  simp only [go_sem, List.length_map, List.length_cons]
  repeat refine And.intro (by first | omega | rfl | (simp; done) | (simp; omega)) ?_
  exact aretc [.cell 4 67, .tmp 5] rfl [_, _] ⟨by simp only [go_sem, sideIs], by simp only [go_sem, sideIs], trivial⟩ ⟨rfl, rfl⟩
theorem rollOfE_pc (l : List Rl) (hl : l.length ≤ 200) (hn : ∀ x ∈ l, (x.name == []) = false) : Pc Tryz.prog 58 [.fz 5 (l.map rlA), .str []] (· = .tup [rlA rlZ, .bool false]) := by
  have hi := idxRl_pc 111 [.pin 1 [.str []] 0 0] rfl (fun y => y.name == []) l (by omega) (fun y _ => rollFn_pc y [])
  rw [idxP_none (fun j hj => hn _ (List.getElem_mem hj))] at hi
  refine pc_intro (ct_intro Tryz.func58 rfl Tryz.ntmps58 hB58 (by simp) fun h ρ w => goB (N := 17) Tryz.ntmps58 300 ?_)
  simp only [go_sem]
  refine pcall1 (hi) rfl (N := 17) Tryz.ntmps58 rfl (goB (N := 17) Tryz.ntmps58 300 ?_)
  simp only [go_sem]
  exact aretc [.cell 4 67, .tmp 5] rfl [_, _] ⟨by simp only [go_sem, sideIs, rlA, rlZ], by simp only [go_sem, sideIs], trivial⟩ ⟨rfl, rfl⟩
def holdsB (r : Rl) (a b : Int) : Bool := (decide (r.start ≤ a) && decide (a < b)) && decide (b ≤ r.start + r.long)
theorem holdsR_pc (r : Rl) (a b : Int) (h1 : 0 ≤ r.start ∧ r.start ≤ 10000000) (h2 : 0 ≤ r.long ∧ r.long ≤ 10000000) : Pc Tryz.prog 161 [rlA r, .int .i64 a, .int .i64 b] (· = .bool (holdsB r a b)) := by
  unfold holdsB
  simp only [rlA]
  refine pc_intro (ct_intro Tryz.func161 rfl Tryz.ntmps161 hB161 (by simp) fun h ρ w => goB (N := 25) Tryz.ntmps161 300 ?_)
  cases e1 : decide (r.start ≤ a) with
  | false =>
    simp only [go_sem, e1]
    exact aret [6] rfl ⟨by simp [resV, Av.get, Av.put], rfl⟩
  | true =>
    cases e2 : decide (a < b) with
    | false =>
      simp only [go_sem, e1, e2]
      exact aret [6] rfl ⟨by simp [resV, Av.get, Av.put], rfl⟩
    | true =>
      simp only [go_sem, e1, e2]
      repeat refine And.intro (by first | omega | rfl | (simp; done) | (simp; omega)) ?_
      exact aret [6] rfl ⟨by simp [resV, Av.get, Av.put], rfl⟩
theorem within_pc (r : Rl) (a b : Int) (h1 : 0 ≤ r.start ∧ r.start ≤ 10000000) (h2 : 0 ≤ r.long ∧ r.long ≤ 10000000) : Pc Tryz.prog 95 [rlA r, .int .i64 a, .int .i64 b] (· = .bool (holdsB r a b)) := by
  unfold holdsB
  simp only [rlA]
  refine pc_intro (ct_intro Tryz.func95 rfl Tryz.ntmps95 hB95 (by simp) fun h ρ w => goB (N := 25) Tryz.ntmps95 300 ?_)
  cases e1 : decide (r.start ≤ a) with
  | false =>
    simp only [go_sem, e1]
    exact aret [6] rfl ⟨by simp [resV, Av.get, Av.put], rfl⟩
  | true =>
    cases e2 : decide (a < b) with
    | false =>
      simp only [go_sem, e1, e2]
      exact aret [6] rfl ⟨by simp [resV, Av.get, Av.put], rfl⟩
    | true =>
      simp only [go_sem, e1, e2]
      repeat refine And.intro (by first | omega | rfl | (simp; done) | (simp; omega)) ?_
      exact aret [6] rfl ⟨by simp [resV, Av.get, Av.put], rfl⟩
theorem setupR_pc : Pc Tryz.prog 158 [.str []] (· = .bool true) := by
  have h3 := madeR_pc [] [65, 66, 67, 68, 69, 70, 71, 72, 74, 75, 76, 77, 78, 80, 81, 82, 83, 84, 85, 86, 87, 88, 89, 90] (by decide) (by decide) (ascii_set (by decide))
  rw [show madeR [] [65, 66, 67, 68, 69, 70, 71, 72, 74, 75, 76, 77, 78, 80, 81, 82, 83, 84, 85, 86, 87, 88, 89, 90] = true from rfl] at h3
  refine pc_intro (ct_intro Tryz.func158 rfl Tryz.ntmps158 hB158 (by simp) fun h ρ w => goB (N := 10) Tryz.ntmps158 300 ?_)
  simp only [go_sem]
  refine pcall1 (h3) rfl (N := 10) Tryz.ntmps158 rfl (goB (N := 10) Tryz.ntmps158 300 ?_)
  simp only [go_sem]
  exact aret [2] rfl ⟨rfl, rfl⟩
def dupB (t y : Tk) : Bool := (y.scene == t.scene && y.setup == t.setup) && y.number == t.number
def busyB (t y : Tk) : Bool := (y.roll == t.roll && decide (y.inn < t.out)) && decide (t.inn < y.out)
theorem dupR_pc (y t : Tk) : Pc Tryz.prog 160 [tkA y, .pin 9 [tkA t] 0 0] (· = .bool (dupB t y)) := by
  unfold dupB
  simp only [tkA]
  refine pc_intro (ct_intro Tryz.func160 rfl Tryz.ntmps160 hB160 (by simp) fun h ρ w => goB (N := 23) Tryz.ntmps160 300 ?_)
  cases e1 : y.scene == t.scene with
  | false =>
    simp only [go_sem, e1]
    exact aret [3] rfl ⟨by simp [resV, Av.get, Av.put], rfl⟩
  | true =>
    cases e2 : y.setup == t.setup with
    | false =>
      simp only [go_sem, e1, e2]
      exact aret [3] rfl ⟨by simp [resV, Av.get, Av.put], rfl⟩
    | true =>
      simp only [go_sem, e1, e2]
      exact aret [3] rfl ⟨by simp [resV, Av.get, Av.put], rfl⟩
theorem busyR_pc (y t : Tk) : Pc Tryz.prog 162 [tkA y, .pin 9 [tkA t] 0 0] (· = .bool (busyB t y)) := by
  unfold busyB
  simp only [tkA]
  refine pc_intro (ct_intro Tryz.func162 rfl Tryz.ntmps162 hB162 (by simp) fun h ρ w => goB (N := 23) Tryz.ntmps162 300 ?_)
  cases e1 : y.roll == t.roll with
  | false =>
    simp only [go_sem, e1]
    exact aret [3] rfl ⟨by simp [resV, Av.get, Av.put], rfl⟩
  | true =>
    cases e2 : decide (y.inn < t.out) with
    | false =>
      simp only [go_sem, e1, e2]
      exact aret [3] rfl ⟨by simp [resV, Av.get, Av.put], rfl⟩
    | true =>
      simp only [go_sem, e1, e2]
      exact aret [3] rfl ⟨by simp [resV, Av.get, Av.put], rfl⟩
end Go.Proofs.YtkfpiadgjbhcpaaGreatDoor
