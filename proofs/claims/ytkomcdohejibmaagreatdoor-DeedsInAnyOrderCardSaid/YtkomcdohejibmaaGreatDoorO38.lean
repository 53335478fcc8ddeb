/- slices.SortFunc of deeds. Own work of this seat. -/
import Derived.Test.YtkomcdohejibmaaGreatDoorO35
import Derived.Test.YtkomcdohejibmaaGreatDoorO36
import Derived.Test.YtkomcdohejibmaaGreatDoorO37
import Derived.Test.YtkomcdohejibmaaGreatDoorO23
set_option maxRecDepth 100000
set_option linter.unusedSimpArgs false
set_option linter.unusedVariables false
set_option linter.defProp false
namespace Go.Proofs.YtkomcdohejibmaaGreatDoor
open Go Go.Av Go.RowKit

section strict
attribute [local instance] trUp
def pc_introU := @pc_intro trUp
def ct_introU := @ct_intro trUp
def goBU := @goB trUp
def pcall1U := @pcall1 trUp
def adrawU := @adraw trUp
def aretU := @aret trUp
def aenterU := @aenter trUp
def aroundU := @around trUp
def aagainU := @aagain trUp
theorem o_pcu {f : FuncId} {args : List AV} {r : AV} (vs : List Value) (v : Value) (hb : hasBody Tryz.prog f = true) (ha : ∀ h vs', RL h Lf0 true vs' args → vs' = vs) (hr : ∀ h, RV h Lf0 true v r)
    (H : ∀ w, Calls Tryz.prog f vs.toArray w fun e w' => e = .returned v ∧ Same w w') : Pc Tryz.prog f args (· = r) := by
  refine ⟨hb, fun h w vs' hm hv => ?_⟩
  have := ha h vs' hv
  subst this
  refine (H w).mono ?_
  rintro e w' ⟨rfl, hs⟩
  exact ⟨v, r, h, rfl, rfl, fun b o v e => ⟨hs.cell (hm b o v e).1, (hm b o v e).2⟩, fun _ _ _ x => x, fun b o e n => (n e).elim, hs, hr h⟩
theorem scompare_pcu (s p : List UInt8) : Pc Tryz.prog 96 [.str s, .str p] (· = .int .i64 (Lib.compareBytes s p)) :=
  o_pcu [_, _] (.int .i64 (Lib.compareBytes s p)) hB96 (o_two s p) (fun h => .int _ _) fun w => (Any.strings_Compare Tryz.lays106 ⟨s.toArray⟩ ⟨p.toArray⟩ w).mono fun e w' ⟨h1, h2⟩ => ⟨h1, h2 ▸ .refl w⟩

theorem isNaN_pcu (n : Int) : Pc Tryz.prog 153 [.int .i64 n] (· = .bool false) := by
  refine pc_introU (ct_introU Tryz.func153 rfl Tryz.ntmps153 hB153 (by simp) fun h ρ w => goBU (N := 6) Tryz.ntmps153 300 ?_)
  simp only [go_sem]
  exact aretU [2] rfl ⟨rfl, rfl⟩
theorem icompare_pcu (a b : Int) : Pc Tryz.prog 97 [.int .i64 a, .int .i64 b] (· = .int .i64 (cmpI a b)) := by
  refine pc_introU (ct_introU Tryz.func97 rfl Tryz.ntmps97 hB97 (by simp) fun h ρ w => goBU (N := 20) Tryz.ntmps97 300 ?_)
  simp only [go_sem]
  refine pcall1U (isNaN_pcu a) rfl (N := 20) Tryz.ntmps97 rfl ?_
  refine goBU (N := 20) Tryz.ntmps97 300 ?_
  simp only [go_sem]
  refine pcall1U (isNaN_pcu b) rfl (N := 20) Tryz.ntmps97 rfl ?_
  refine goBU (N := 20) Tryz.ntmps97 300 ?_
  by_cases h1 : a < b
  · have d1 : decide (a < b) = true := by simpa using h1
    simp only [go_sem, d1]
    exact aretU [4] rfl ⟨by simp [resV, Av.get, Av.put, cmpI, h1], rfl⟩
  · have d1 : decide (a < b) = false := by simpa using h1
    by_cases h2 : a > b
    · have d2 : decide (a > b) = true := by simpa using h2
      simp only [go_sem, d1, d2]
      exact aretU [4] rfl ⟨by simp [resV, Av.get, Av.put, cmpI, h1, h2], rfl⟩
    · have d2 : decide (a > b) = false := by simpa using h2
      simp only [go_sem, d1, d2]
      exact aretU [4] rfl ⟨by simp [resV, Av.get, Av.put, cmpI, h1, h2], rfl⟩
theorem or_pcu (a b : Int) : Pc Tryz.prog 95 [.fz 1 [.int .i64 a, .int .i64 b]] (· = .int .i64 (if a ≠ 0 then a else b)) := by
  refine pc_introU (ct_introU Tryz.func95 rfl Tryz.ntmps95 hB95 (by simp) fun h ρ w => goBU (N := 18) Tryz.ntmps95 300 ?_)
  simp only [go_sem]
  refine aenterU (aroundU ?_)
  by_cases h1 : a = 0
  · have d1 : (a != 0) = false := by simpa using h1
    refine goBU (N := 18) Tryz.ntmps95 300 ?_
    simp only [go_sem, d1]
    refine aagainU (aroundU ?_)
    by_cases h2 : b = 0
    · have d2 : (b != 0) = false := by simpa using h2
      refine goBU (N := 18) Tryz.ntmps95 300 ?_
      simp only [go_sem, d2]
      refine aagainU (aroundU ?_)
      refine goBU (N := 18) Tryz.ntmps95 300 ?_
      simp only [go_sem]
      exact aretU [2] rfl ⟨by simp [resV, Av.get, Av.put, h1, h2], rfl⟩
    · have d2 : (b != 0) = true := by simpa using h2
      refine goBU (N := 18) Tryz.ntmps95 300 ?_
      simp only [go_sem, d2]
      exact aretU [2] rfl ⟨by simp [resV, Av.get, Av.put, h1], rfl⟩
  · have d1 : (a != 0) = true := by simpa using h1
    refine goBU (N := 18) Tryz.ntmps95 300 ?_
    simp only [go_sem, d1]
    exact aretU [2] rfl ⟨by simp [resV, Av.get, Av.put, h1], rfl⟩
theorem byStamp_pcu (a b : St) : Pc Tryz.prog 42 [stA a, stA b] (· = .int .i64 (stCmp a b)) := by
  simp only [stA]
  refine pc_introU (ct_introU Tryz.func42 rfl Tryz.ntmps42 hB42 (by simp) fun h ρ w => goBU (N := 17) Tryz.ntmps42 300 ?_)
  simp only [go_sem]
  refine adrawU [.int .i64 (Lib.compareBytes a.dept b.dept), .int .i64 (cmpI a.no b.no), .int .i64 (stCmp a b)] mixed ?d1 (N := 17) Tryz.ntmps42 ?d2 100 ?d3
  case d1 => decide
  case d2 => decide
  simp only [go_sem]
  repeat refine And.intro (by first | exact (scompare_pcu a.dept b.dept).at | exact (icompare_pcu a.no b.no).at | exact (or_pcu _ _).at | rfl) ?_
  refine goBU (N := 17) Tryz.ntmps42 300 ?_
  simp only [go_sem]
  exact aretU [4] rfl ⟨rfl, rfl⟩
theorem stampOrder_pcu (a b : St) : Pc Tryz.prog 78 [stA a, stA b] (· = .int .i64 (stCmp a b)) := by
  simp only [stA]
  refine pc_introU (ct_introU Tryz.func78 rfl Tryz.ntmps78 hB78 (by simp) fun h ρ w => goBU (N := 17) Tryz.ntmps78 300 ?_)
  simp only [go_sem]
  refine adrawU [.int .i64 (Lib.compareBytes a.dept b.dept), .int .i64 (cmpI a.no b.no), .int .i64 (stCmp a b)] mixed ?d1 (N := 17) Tryz.ntmps78 ?d2 100 ?d3
  case d1 => decide
  case d2 => decide
  simp only [go_sem]
  repeat refine And.intro (by first | exact (scompare_pcu a.dept b.dept).at | exact (icompare_pcu a.no b.no).at | exact (or_pcu _ _).at | rfl) ?_
  refine goBU (N := 17) Tryz.ntmps78 300 ?_
  simp only [go_sem]
  exact aretU [4] rfl ⟨rfl, rfl⟩

theorem deA_cells {h : Mem} {ρ : Go.Av.Own} {s : List Blk} {x : De} {vs : List Value} (r : RL h (Lf ρ s) false vs (cellsOf (deA x))) : ∃ v2 v3 v4 v5 v6, vs = [.string ⟨x.st.dept.toArray⟩, .int .i64 x.st.no, v2, v3, v4, v5, v6] := by
  obtain ⟨c2, c3, c4, c5, c6, hcc⟩ : ∃ c2 c3 c4 c5 c6, cellsOf (deA x) = [.str x.st.dept, .int .i64 x.st.no, c2, c3, c4, c5, c6] := ⟨_, _, _, _, _, rfl⟩
  rw [hcc] at r
  cases r with | cons a0 r =>
  cases r with | cons a1 r =>
  cases r with | cons a2 r =>
  cases r with | cons a3 r =>
  cases r with | cons a4 r =>
  cases r with | cons a5 r =>
  cases r with | cons a6 r =>
  cases r
  have e0 := inv_str a0
  have e1 := inv_int a1
  subst e0 e1
  exact ⟨_, _, _, _, _, rfl⟩

theorem add2_pcu (a b : St) (v2 v3 v4 v5 v6 u2 u3 u4 u5 u6 : Value) (h2 : v2.oneCell' = true) (h3 : v3.oneCell' = true) (h4 : v4.oneCell' = true) (h5 : v5.oneCell' = true) (h6 : v6.oneCell' = true) (k2 : u2.oneCell' = true) (k3 : u3.oneCell' = true) (k4 : u4.oneCell' = true) (k5 : u5.oneCell' = true) (k6 : u6.oneCell' = true) :
    Pc Tryz.prog 41 [.agg [.str a.dept, .int .i64 a.no, .raw v2, .raw v3, .raw v4, .raw v5, .raw v6], .agg [.str b.dept, .int .i64 b.no, .raw u2, .raw u3, .raw u4, .raw u5, .raw u6]] (· = .int .i64 (stCmp a b)) := by
  have hb := byStamp_pcu a b
  simp only [stA] at hb
  refine pc_introU (ct_introU Tryz.func41 rfl Tryz.ntmps41 hB41 (by simp) fun h ρ w => goBU (N := 10) Tryz.ntmps41 300 ?_)
  simp only [go_sem, h2, h3, h4, h5, h6, k2, k3, k4, k5, k6]
  refine pcall1U (hb) rfl (N := 10) Tryz.ntmps41 rfl ?_
  refine goBU (N := 10) Tryz.ntmps41 300 ?_
  simp only [go_sem]
  exact aretU [4] rfl ⟨rfl, rfl⟩
theorem add2_calls (h : Mem) (ρ : Go.Av.Own) (s : List Blk) (x y : De) (vs us : List Value) (r1 : RL h (Lf ρ s) false vs (cellsOf (deA x))) (r2 : RL h (Lf ρ s) false us (cellsOf (deA y))) (o1 : ∀ v ∈ vs, v.oneCell' = true) (o2 : ∀ v ∈ us, v.oneCell' = true) (W : World) :
    Calls Tryz.prog 41 #[.agg vs.toArray, .agg us.toArray] W fun e w' => e = .returned (.int .i64 (stCmp x.st y.st)) ∧ @Same trUp W w' := by
  obtain ⟨v2, v3, v4, v5, v6, rfl⟩ := deA_cells r1
  obtain ⟨u2, u3, u4, u5, u6, rfl⟩ := deA_cells r2
  simp only [List.mem_cons, List.not_mem_nil, or_false, forall_eq_or_imp, forall_eq] at o1 o2
  have hp := add2_pcu x.st y.st v2 v3 v4 v5 v6 u2 u3 u4 u5 u6 o1.2.2.1 o1.2.2.2.1 o1.2.2.2.2.1 o1.2.2.2.2.2.1 o1.2.2.2.2.2.2 o2.2.2.1 o2.2.2.2.1 o2.2.2.2.2.1 o2.2.2.2.2.2.1 o2.2.2.2.2.2.2
  have hq := @Pc.calls trUp _ _ _ _ hp W ( [.agg [.string ⟨x.st.dept.toArray⟩, .int .i64 x.st.no, v2, v3, v4, v5, v6].toArray, .agg [.string ⟨y.st.dept.toArray⟩, .int .i64 y.st.no, u2, u3, u4, u5, u6].toArray]) fun h => .cons (.agg _ _ (.cons (.str _) (.cons (.int _ _) (.cons (.raw _) (.cons (.raw _) (.cons (.raw _) (.cons (.raw _) (.cons (.raw _) .nil)))))))) (.cons (.agg _ _ (.cons (.str _) (.cons (.int _ _) (.cons (.raw _) (.cons (.raw _) (.cons (.raw _) (.cons (.raw _) (.cons (.raw _) .nil)))))))) .nil)
  refine Calls.mono hq ?_
  rintro e w' ⟨⟨v, h', rfl, rv⟩, hs⟩
  refine ⟨?_, hs⟩
  cases rv with | int => rfl

theorem join1_pcu (a b : St) (v2 v3 v4 v5 v6 u2 u3 u4 u5 u6 : Value) (h2 : v2.oneCell' = true) (h3 : v3.oneCell' = true) (h4 : v4.oneCell' = true) (h5 : v5.oneCell' = true) (h6 : v6.oneCell' = true) (k2 : u2.oneCell' = true) (k3 : u3.oneCell' = true) (k4 : u4.oneCell' = true) (k5 : u5.oneCell' = true) (k6 : u6.oneCell' = true) :
    Pc Tryz.prog 46 [.agg [.str a.dept, .int .i64 a.no, .raw v2, .raw v3, .raw v4, .raw v5, .raw v6], .agg [.str b.dept, .int .i64 b.no, .raw u2, .raw u3, .raw u4, .raw u5, .raw u6]] (· = .int .i64 (stCmp a b)) := by
  have hb := byStamp_pcu a b
  simp only [stA] at hb
  refine pc_introU (ct_introU Tryz.func46 rfl Tryz.ntmps46 hB46 (by simp) fun h ρ w => goBU (N := 10) Tryz.ntmps46 300 ?_)
  simp only [go_sem, h2, h3, h4, h5, h6, k2, k3, k4, k5, k6]
  refine pcall1U (hb) rfl (N := 10) Tryz.ntmps46 rfl ?_
  refine goBU (N := 10) Tryz.ntmps46 300 ?_
  simp only [go_sem]
  exact aretU [4] rfl ⟨rfl, rfl⟩
theorem join1_calls (h : Mem) (ρ : Go.Av.Own) (s : List Blk) (x y : De) (vs us : List Value) (r1 : RL h (Lf ρ s) false vs (cellsOf (deA x))) (r2 : RL h (Lf ρ s) false us (cellsOf (deA y))) (o1 : ∀ v ∈ vs, v.oneCell' = true) (o2 : ∀ v ∈ us, v.oneCell' = true) (W : World) :
    Calls Tryz.prog 46 #[.agg vs.toArray, .agg us.toArray] W fun e w' => e = .returned (.int .i64 (stCmp x.st y.st)) ∧ @Same trUp W w' := by
  obtain ⟨v2, v3, v4, v5, v6, rfl⟩ := deA_cells r1
  obtain ⟨u2, u3, u4, u5, u6, rfl⟩ := deA_cells r2
  simp only [List.mem_cons, List.not_mem_nil, or_false, forall_eq_or_imp, forall_eq] at o1 o2
  have hp := join1_pcu x.st y.st v2 v3 v4 v5 v6 u2 u3 u4 u5 u6 o1.2.2.1 o1.2.2.2.1 o1.2.2.2.2.1 o1.2.2.2.2.2.1 o1.2.2.2.2.2.2 o2.2.2.1 o2.2.2.2.1 o2.2.2.2.2.1 o2.2.2.2.2.2.1 o2.2.2.2.2.2.2
  have hq := @Pc.calls trUp _ _ _ _ hp W ( [.agg [.string ⟨x.st.dept.toArray⟩, .int .i64 x.st.no, v2, v3, v4, v5, v6].toArray, .agg [.string ⟨y.st.dept.toArray⟩, .int .i64 y.st.no, u2, u3, u4, u5, u6].toArray]) fun h => .cons (.agg _ _ (.cons (.str _) (.cons (.int _ _) (.cons (.raw _) (.cons (.raw _) (.cons (.raw _) (.cons (.raw _) (.cons (.raw _) .nil)))))))) (.cons (.agg _ _ (.cons (.str _) (.cons (.int _ _) (.cons (.raw _) (.cons (.raw _) (.cons (.raw _) (.cons (.raw _) (.cons (.raw _) .nil)))))))) .nil)
  refine Calls.mono hq ?_
  rintro e w' ⟨⟨v, h', rfl, rv⟩, hs⟩
  refine ⟨?_, hs⟩
  cases rv with | int => rfl

theorem put1_pcu (a b : St) (v2 v3 v4 v5 v6 u2 u3 u4 u5 u6 : Value) (h2 : v2.oneCell' = true) (h3 : v3.oneCell' = true) (h4 : v4.oneCell' = true) (h5 : v5.oneCell' = true) (h6 : v6.oneCell' = true) (k2 : u2.oneCell' = true) (k3 : u3.oneCell' = true) (k4 : u4.oneCell' = true) (k5 : u5.oneCell' = true) (k6 : u6.oneCell' = true) :
    Pc Tryz.prog 107 [.agg [.str a.dept, .int .i64 a.no, .raw v2, .raw v3, .raw v4, .raw v5, .raw v6], .agg [.str b.dept, .int .i64 b.no, .raw u2, .raw u3, .raw u4, .raw u5, .raw u6]] (· = .int .i64 (stCmp a b)) := by
  have hb := stampOrder_pcu a b
  simp only [stA] at hb
  refine pc_introU (ct_introU Tryz.func107 rfl Tryz.ntmps107 hB107 (by simp) fun h ρ w => goBU (N := 10) Tryz.ntmps107 300 ?_)
  simp only [go_sem, h2, h3, h4, h5, h6, k2, k3, k4, k5, k6]
  refine pcall1U (hb) rfl (N := 10) Tryz.ntmps107 rfl ?_
  refine goBU (N := 10) Tryz.ntmps107 300 ?_
  simp only [go_sem]
  exact aretU [4] rfl ⟨rfl, rfl⟩
theorem put1_calls (h : Mem) (ρ : Go.Av.Own) (s : List Blk) (x y : De) (vs us : List Value) (r1 : RL h (Lf ρ s) false vs (cellsOf (deA x))) (r2 : RL h (Lf ρ s) false us (cellsOf (deA y))) (o1 : ∀ v ∈ vs, v.oneCell' = true) (o2 : ∀ v ∈ us, v.oneCell' = true) (W : World) :
    Calls Tryz.prog 107 #[.agg vs.toArray, .agg us.toArray] W fun e w' => e = .returned (.int .i64 (stCmp x.st y.st)) ∧ @Same trUp W w' := by
  obtain ⟨v2, v3, v4, v5, v6, rfl⟩ := deA_cells r1
  obtain ⟨u2, u3, u4, u5, u6, rfl⟩ := deA_cells r2
  simp only [List.mem_cons, List.not_mem_nil, or_false, forall_eq_or_imp, forall_eq] at o1 o2
  have hp := put1_pcu x.st y.st v2 v3 v4 v5 v6 u2 u3 u4 u5 u6 o1.2.2.1 o1.2.2.2.1 o1.2.2.2.2.1 o1.2.2.2.2.2.1 o1.2.2.2.2.2.2 o2.2.2.1 o2.2.2.2.1 o2.2.2.2.2.1 o2.2.2.2.2.2.1 o2.2.2.2.2.2.2
  have hq := @Pc.calls trUp _ _ _ _ hp W ( [.agg [.string ⟨x.st.dept.toArray⟩, .int .i64 x.st.no, v2, v3, v4, v5, v6].toArray, .agg [.string ⟨y.st.dept.toArray⟩, .int .i64 y.st.no, u2, u3, u4, u5, u6].toArray]) fun h => .cons (.agg _ _ (.cons (.str _) (.cons (.int _ _) (.cons (.raw _) (.cons (.raw _) (.cons (.raw _) (.cons (.raw _) (.cons (.raw _) .nil)))))))) (.cons (.agg _ _ (.cons (.str _) (.cons (.int _ _) (.cons (.raw _) (.cons (.raw _) (.cons (.raw _) (.cons (.raw _) (.cons (.raw _) .nil)))))))) .nil)
  refine Calls.mono hq ?_
  rintro e w' ⟨⟨v, h', rfl, rv⟩, hs⟩
  refine ⟨?_, hs⟩
  cases rv with | int => rfl

end strict
theorem ltOf_st : Go.Sort.SWO (Go.Proofs.ltOf fun x y : De => stCmp x.st y.st) := by
  have e : ∀ x y : De, Go.Proofs.ltOf (fun x y : De => stCmp x.st y.st) x y = true ↔ stLt x.st y.st := fun x y => by
    simp only [Go.Proofs.ltOf, decide_eq_true_eq]; exact stCmp_lt
  have e' : ∀ x y : De, Go.Proofs.ltOf (fun x y : De => stCmp x.st y.st) x y = false ↔ ¬ stLt x.st y.st := fun x y => by
    rw [← e, Bool.not_eq_true]
  refine ⟨fun x => (e' x x).2 (stLt_irrefl _), fun x y z h1 h2 => (e x z).2 (stLt_trans ((e x y).1 h1) ((e y z).1 h2)), fun x y z h1 h2 => (e' x z).2 fun h => ?_⟩
  have n1 := (e' x y).1 h1
  have n2 := (e' y z).1 h2
  -- x < z; neither x < y nor y < z
  by_cases h3 : stLt y.st x.st
  · exact n2 (stLt_trans h3 h)
  · have := stLt_total n1 h3
    rw [← this] at n2
    exact n2 h

/-- slices.SortFunc by stamps -/
theorem sortDe_ct {g : FuncId} (hg : hasBody Tryz.prog g = true)
    (hcmp : ∀ (h : Mem) (ρ : Go.Av.Own) (s : List Blk) (x y : De) (vs us : List Value), RL h (Lf ρ s) false vs (cellsOf (deA x)) → RL h (Lf ρ s) false us (cellsOf (deA y)) → (∀ v ∈ vs, v.oneCell' = true) → (∀ v ∈ us, v.oneCell' = true) → ∀ W, Calls Tryz.prog g #[.agg vs.toArray, .agg us.toArray] W fun e w' => e = .returned (.int .i64 (stCmp x.st y.st)) ∧ @Same trUp W w')
    {s : List Blk} {bid : Nat} {l : List De} (hs : s[bid]? = some (.arr 7 (l.map deA))) (hl : l.length < 1000000) :
    Ct Tryz.prog 40 [.sl bid 0 l.length l.length, .fn (.func g) []] s (fun r s' => r = .tup [] ∧ ∃ l' : List De, s' = s.set bid (.arr 7 (l'.map deA)) ∧ l'.Perm l ∧ l'.Pairwise (fun x y => ¬ stLt y.st x.st)) := by
  have h := sort_ct Tryz.sortDe Tryz.isAgg41 Tryz.sizeOf41 hB40 deA (by decide) (fun _ => rfl) (fun x y : De => stCmp x.st y.st) ltOf_st hg hcmp hs (by omega)
  refine ⟨h.1, fun hh ρ w vs m r => (h.2 hh ρ w vs m r).mono ?_⟩
  rintro e w' ⟨v, r, s1, h', ρ', h1, ⟨h2, l', h3, h4, h5⟩, h6⟩
  exact ⟨v, r, s1, h', ρ', h1, ⟨h2, l', h3, h4, h5.imp fun hh => by rwa [stCmp_lt] at hh⟩, h6⟩
end Go.Proofs.YtkomcdohejibmaaGreatDoor
/- office.Join. Own work of this seat. -/
set_option maxRecDepth 100000
set_option linter.unusedSimpArgs false
set_option linter.unusedVariables false
namespace Go.Proofs.YtkomcdohejibmaaGreatDoor
open Go Go.Av Go.RowKit

/-- deeds by their stamps -/
def hM (o : List De) : List (AV × AV) := stM deA (o.map fun d => (d.st, d))
theorem hM_find (s : St) (o : List De) : (mfindS Tryz.prog stFs (stA s) (hM o) 0 = some none ∧ ∀ x ∈ o, x.st ≠ s) ∨ ∃ i v, mfindS Tryz.prog stFs (stA s) (hM o) 0 = some (some (i, deA v)) ∧ v ∈ o ∧ v.st = s := by
  rcases stM_find deA s (o.map fun d => (d.st, d)) 0 with ⟨h1, h2⟩ | ⟨i, v, h1, h2, _⟩
  · exact .inl ⟨h1, fun x hx => h2 (x.st, x) (List.mem_map.2 ⟨x, hx, rfl⟩)⟩
  · rw [List.getElem?_map] at h2
    obtain ⟨k, hk, e⟩ := Option.map_eq_some_iff.1 h2
    have e1 : k.st = s := congrArg Prod.fst e
    have e2 : k = v := congrArg Prod.snd e
    subst e2
    exact .inr ⟨0 + i, k, h1, List.mem_of_getElem? hk, e1⟩
theorem hM_push (o : List De) (d : De) : hM o ++ [(stA d.st, deA d)] = hM (o ++ [d]) := by simp [hM, stM]
theorem hM_map (o : List De) : hM o = o.map fun d => (stA d.st, deA d) := by simp [hM, stM]
theorem low_hM (n : Nat) (o : List De) : lowB n (.mp (hM o)) = true := by
  show (hM o).all _ = true
  rw [hM_map, List.all_map, List.all_eq_true]
  intro x hx
  rfl

/-- a union without a clash, that is right if it is put in order -/
def CanJoin (a b : List De) : Prop := CkOk a ∧ b.length ≤ 500 ∧ (∀ x ∈ a ++ b, ∀ y ∈ a ++ b, x.st = y.st → x = y) ∧ ∀ l, Srt l → (∀ d, d ∈ l ↔ d ∈ a ∨ d ∈ b) → CkOk l
def OJoinR (a b : List De) (r : AV) : Prop := ∃ (l : List De) (n : Int), r = .tup [.fz 7 (l.map deA), .int .i64 n] ∧ (n = 0 → Srt l ∧ CkOk l ∧ ∀ d, d ∈ l ↔ d ∈ a ∨ d ∈ b) ∧ (CanJoin a b → n = 0)
theorem srt_sorted {o l : List De} (hp : l.Perm o) (hs : l.Pairwise fun x y => ¬ stLt y.st x.st) (hd : o.Pairwise fun x y => x.st ≠ y.st) : Srt l := by
  have h2 : l.Pairwise fun x y => x.st ≠ y.st := hp.symm.pairwise hd (fun h => Ne.symm h)
  exact hs.imp₂ (fun x y h1 h2 => by
    apply Classical.byContradiction
    intro h3
    exact h2 (stLt_total h3 h1)) h2
set_option maxHeartbeats 8000000 in
theorem join_pc (a b : List De) (ha : SzL a) (hb : SzL b) (hla : a.length < 100000) : Pc Tryz.prog 10 [.fz 7 (a.map deA), .fz 7 (b.map deA)] (OJoinR a b) := by
  have hfa := check_pc a ha
  refine pc_intro (ct_intro Tryz.func10 rfl Tryz.ntmps10 hB10 (by simp) fun h ρ w => goB (N := 66) Tryz.ntmps10 300 ?_)
  simp only [go_sem]
  refine pcall (hfa) rfl (N := 66) Tryz.ntmps10 rfl ?_
  rintro _ ⟨n, rfl, hn⟩
  cases e0 : n != 0 with
  | true =>
    have e0' : n ≠ 0 := by simpa using e0
    refine goB (N := 66) Tryz.ntmps10 300 ?_
    simp only [go_sem, e0]
    exact ARet.shift (Shift.nilfz 4 7 rfl) (aret [4, 5] rfl ⟨⟨[], n, rfl, fun h => absurd h e0', fun h => absurd (hn.2 h.1) e0'⟩, rfl⟩)
  | false =>
    by_cases hbig : b.length > 500
    · have d1 : decide ((b.length : Int) > 500) = true := by simp; omega
      refine goB (N := 66) Tryz.ntmps10 300 ?_
      simp only [go_sem, e0, d1, List.length_map]
      exact ARet.shift (Shift.nilfz 4 7 rfl) (aret [4, 5] rfl ⟨⟨[], 2, rfl, fun h => absurd h (by decide), fun h => absurd h.2.1 (by omega)⟩, rfl⟩)
    have d1 : decide ((b.length : Int) > 500) = false := by simp; omega
    have hcc := concat_ct a b hla (by omega) [.mp []]
    have hin : ∀ d, d ∈ a ++ b ↔ d ∈ a ∨ d ∈ b := fun d => List.mem_append
    have hlen : (a ++ b).length = a.length + b.length := List.length_append
    have hszab : ∀ d ∈ a ++ b, SzD d := fun d hd => ((hin d).1 hd).elim (ha.all d) (hb.all d)
    generalize hq : a ++ b = q at *
    refine goB (N := 66) Tryz.ntmps10 300 ?_
    simp only [go_sem, e0, d1, List.length_map]
    refine acall (hcc) (N := 66) Tryz.ntmps10 rfl ?_
    rintro _ _ ⟨rfl, rfl⟩
    refine goB (N := 66) Tryz.ntmps10 300 ?_
    simp only [go_sem, List.length_map]
    repeat refine And.intro (by first | omega | rfl | (simp; done)) ?_
    refine aloop (ι := Nat × List De) (fun y => q.length - y.1) (fun y => [(28, .int .i64 y.1), (27, .int .i64 q.length), (26, .sl 1 0 q.length q.length), (8, .sl 2 0 y.2.length y.2.length), (7, .mp 0)]) (fun y => [.mp (hM y.2), .arr 7 (q.map deA), .arr 7 (y.2.map deA)])
      (fun y => y.1 ≤ q.length ∧ y.2.length ≤ y.1 ∧ (∀ d, d ∈ y.2 ↔ d ∈ q.take y.1) ∧ y.2.Pairwise fun x y => x.st ≠ y.st) (0, []) ⟨by simp, by simp, by simp, .nil⟩ ?_ ?_
    · refine Shift.trans (Shift.nilsl 8 7 rfl) (Shift.weakS ?_ rfl)
      simp only [wk, go_sem]
    rintro ⟨i, o⟩ ⟨g1, g2, g3, g4⟩ J hJ
    simp only at g1 g2 g3 g4 hJ ⊢
    by_cases gi : i < q.length
    · have di : decide ((i : Int) < (q.length : Int)) = true := by simp; omega
      have hst := mem_step gi
      have p1 := deA_get q i gi
      have hszi : SzD q[i] := hszab _ (List.getElem_mem gi)
      have hzo : ∀ d ∈ o, d ∈ q := fun d hd => List.take_subset _ _ ((g3 d).1 hd)
      rcases hM_find q[i].st o with ⟨m1, m2⟩ | ⟨k, v, m1, m2, m3⟩
      · have happ := hJ (i + 1, o ++ [q[i]]) ⟨by simp only; omega, by simp; omega, fun d => by rw [hst, List.mem_append, List.mem_singleton, g3], by
          rw [List.pairwise_append]
          exact ⟨g4, List.pairwise_singleton .., fun x hx y hy => by rw [List.mem_singleton.1 hy]; exact m2 x hx⟩⟩ (by simp only; omega)
        have hcp := copied_pc q[i] hszi.seen
        have hlow1 := low_hM 3 (o ++ [q[i]])
        have hlow2 := low_des 3 (o ++ [q[i]])
        have hlow3 := low_des 3 q
        rw [← hM_push] at happ hlow1
        simp only [List.length_append, List.length_cons, List.length_nil, List.map_append, List.map_cons, List.map_nil, Nat.zero_add, deA, stA] at happ m1 hcp hlow1 hlow2
        refine goB (N := 66) Tryz.ntmps10 300 ?_
        simp only [go_sem, di, p1, List.length_map, m1]
        repeat refine And.intro (by first | omega | rfl | kernel_rfl | exact .inl rfl | exact .inl trivial | (simp; done) | (simp; omega)) ?_
        refine pcall1 (hcp) rfl (N := 66) Tryz.ntmps10 rfl (goB (N := 66) Tryz.ntmps10 300 ?_)
        simp only [go_sem, List.length_map]
        repeat refine And.intro (by first | omega | rfl | kernel_rfl | exact .inl rfl | exact .inl trivial | (simp; done) | (simp; omega)) ?_
        rw [show (i : Int) + 1 = ((i + 1 : Nat) : Int) by omega]
        refine ainv happ (Shift.low 3 (by simp) (by simp) ?_ ?_)
        · simp only [List.take_succ_cons, List.take_zero, List.all_cons, List.all_nil, hlow1, hlow2, hlow3, Bool.and_self]
        · simp only [wkl, lowV, lowC, Av.get, go_sem]
      · have hv := hzo v m2
        have hsm := same_pc v q[i] (hszab v hv).seen hszi.seen
        simp only [deA, stA] at hsm m1
        cases hs2 : sameP v q[i] with
        | true =>
          have hvq := sameP_iff.1 hs2
          have hfin := hJ (i + 1, o) ⟨by simp only; omega, by simp only; omega, fun d => by
            rw [hst, ← g3]
            refine ⟨.inl, fun h => h.elim id fun h => ?_⟩
            rw [h, ← hvq]
            exact m2, g4⟩ (by simp only; omega)
          rw [hs2] at hsm
          refine goB (N := 66) Tryz.ntmps10 300 ?_
          simp only [go_sem, di, p1, List.length_map, m1]
          repeat refine And.intro (by first | omega | rfl | kernel_rfl | exact .inl rfl | exact .inl trivial | (simp; done) | (simp; omega)) ?_
          refine pcall1 (hsm) rfl (N := 66) Tryz.ntmps10 rfl (goB (N := 66) Tryz.ntmps10 300 ?_)
          simp only [go_sem, List.length_map]
          repeat refine And.intro (by first | omega | rfl | kernel_rfl | exact .inl rfl | exact .inl trivial | (simp; done) | (simp; omega)) ?_
          rw [show (i : Int) + 1 = ((i + 1 : Nat) : Int) by omega]
          refine ainv hfin (Shift.low 3 (by simp) (by simp) ?_ ?_)
          · simp only [List.take_succ_cons, List.take_zero, List.all_cons, List.all_nil, low_hM, low_des, Bool.and_self]
          · simp only [wkl, lowV, lowC, Av.get, go_sem]
        | false =>
          have hne : ¬ CanJoin a b := fun h => by
            have := h.2.2.1 v (by rw [hq]; exact hv) q[i] (by rw [hq]; exact List.getElem_mem gi) m3
            rw [sameP_iff.2 this] at hs2
            cases hs2
          rw [hs2] at hsm
          refine goB (N := 66) Tryz.ntmps10 300 ?_
          simp only [go_sem, di, p1, List.length_map, m1]
          repeat refine And.intro (by first | omega | rfl | kernel_rfl | exact .inl rfl | exact .inl trivial | (simp; done) | (simp; omega)) ?_
          refine pcall1 (hsm) rfl (N := 66) Tryz.ntmps10 rfl (goB (N := 66) Tryz.ntmps10 300 ?_)
          simp only [go_sem]
          exact ARet.shift (Shift.trans (Shift.low 0 (e' := [(4, .raw (.slice none 0 0)), (5, .int .i64 17)]) (by simp) (by simp) rfl (by simp only [wkl, lowV, lowC, Av.get, go_sem])) (Shift.nilfz 4 7 rfl)) (aret [4, 5] rfl ⟨⟨[], 17, rfl, fun h => absurd h (by decide), fun h => absurd h hne⟩, rfl⟩)
    · have di : decide ((i : Int) < (q.length : Int)) = false := by simp; omega
      have ho : ∀ d, d ∈ o ↔ d ∈ a ∨ d ∈ b := fun d => by
        rw [g3, List.take_of_length_le (by omega), hin]
      have hss := sortDe_ct (g := 46) hB46 join1_calls (s := [.mp (hM o), .arr 7 (q.map deA), .arr 7 (o.map deA)]) (bid := 2) (l := o) rfl (by omega)
      refine goB (N := 66) Tryz.ntmps10 300 ?_
      simp only [go_sem, di]
      refine acall (hss) (N := 66) Tryz.ntmps10 rfl ?_
      rintro _ _ ⟨rfl, o', rfl, hp, hs⟩
      have hsr := srt_sorted hp hs g4
      have ho' : ∀ d, d ∈ o' ↔ d ∈ a ∨ d ∈ b := fun d => by rw [hp.mem_iff, ho]
      have hol := hp.length_eq
      have hck := check_pc o' ⟨by omega, fun d hd => hszab _ ((hin d).2 ((ho' d).1 hd))⟩
      clear hJ
      have htk : ((o'.map deA).drop 0).take o.length = o'.map deA := by rw [← hol, List.drop_zero, take_map]
      refine AWp.shift (Shift.freeze 8 (id := 2) (l := o'.map deA) rfl rfl (by simp; omega) (Nat.le_refl _) (deA_frz _)) ?_
      rw [htk]
      refine goB (N := 66) Tryz.ntmps10 300 ?_
      simp only [go_sem]
      refine pcall (hck) rfl (N := 66) Tryz.ntmps10 rfl ?_
      rintro _ ⟨n2, rfl, hn2⟩
      cases e2 : n2 != 0 with
      | true =>
        have e2' : n2 ≠ 0 := by simpa using e2
        refine goB (N := 66) Tryz.ntmps10 300 ?_
        simp only [go_sem, e2]
        exact ARet.shift (Shift.trans (Shift.low 0 (e' := [(4, .raw (.slice none 0 0)), (5, .int .i64 n2)]) (by simp) (by simp) rfl (by simp only [wkl, lowV, lowC, Av.get, go_sem])) (Shift.nilfz 4 7 rfl)) (aret [4, 5] rfl ⟨⟨[], n2, rfl, fun h => absurd h e2', fun h => absurd (hn2.2 (h.2.2.2 o' hsr ho')) e2'⟩, rfl⟩)
      | false =>
        have e2' : n2 = 0 := by simpa using e2
        refine goB (N := 66) Tryz.ntmps10 300 ?_
        simp only [go_sem, e2]
        exact aret [4, 5] rfl ⟨⟨o', 0, rfl, fun _ => ⟨hsr, hn2.1 e2', ho'⟩, fun _ => rfl⟩, rfl⟩
end Go.Proofs.YtkomcdohejibmaaGreatDoor
