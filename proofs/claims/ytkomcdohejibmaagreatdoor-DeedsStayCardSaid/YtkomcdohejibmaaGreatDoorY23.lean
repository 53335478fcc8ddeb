/- Deeds as plain data; stamps and their order. Own work of this seat. -/
import Derived.Test.YtkomcdohejibmaaGreatDoorY1
import Derived.Test.YtkomcdohejibmaaGreatDoorY20
import Derived.Test.YtkomcdohejibmaaGreatDoorY21
import Derived.Test.YtkomcdohejibmaaGreatDoorY22
import Derived.Test.YtkomcdohejibmaaGreatDoorY17
import Derived.Test.YtkomcdohejibmaaGreatDoorY18
set_option maxRecDepth 100000
set_option linter.unusedSimpArgs false
set_option linter.unusedVariables false
namespace Go.Proofs.YtkomcdohejibmaaGreatDoor
open Go Go.Av Go.RowKit

structure St where
  dept : List UInt8
  no : Int
  deriving DecidableEq
structure De where
  st : St
  seen : List St
  kind : Int
  paper : List UInt8
  text : List UInt8
  person : List UInt8
  deriving DecidableEq
def stA (s : St) : AV := .agg [.str s.dept, .int .i64 s.no]
def deA (d : De) : AV := .agg [.str d.st.dept, .int .i64 d.st.no, .fz 2 (d.seen.map stA), .int .i64 d.kind, .str d.paper, .str d.text, .str d.person]
theorem stA_frz : ∀ l : List St, (flat (l.map stA)).all Av.frozen = true
  | [] => rfl
  | a :: l => by simp only [List.map_cons, flat, stA, cellsOf, List.cons_append, List.nil_append, List.all_cons, Av.frozen, stA_frz l, Bool.and_self]
theorem deA_frz : ∀ l : List De, (flat (l.map deA)).all Av.frozen = true
  | [] => rfl
  | a :: l => by simp only [List.map_cons, flat, deA, cellsOf, List.cons_append, List.nil_append, List.all_cons, Av.frozen, deA_frz l, Bool.and_self]
theorem low_sts (n : Nat) (l : List St) : lowB n (.arr 2 (l.map stA)) = true := low_all (stA_frz l)
theorem low_des (n : Nat) (l : List De) : lowB n (.arr 7 (l.map deA)) = true := low_all (deA_frz l)
theorem low_de (n : Nat) (d : De) : lowB n (.arr 7 [deA d]) = true := low_des n [d]
theorem stA_get (l : List St) (i : Nat) (h : i < l.length) : (l.map stA).getD i .any = .agg [.str l[i].dept, .int .i64 l[i].no] := by simp [List.getD, h, stA]
theorem deA_get (l : List De) (i : Nat) (h : i < l.length) : (l.map deA).getD i .any = .agg [.str l[i].st.dept, .int .i64 l[i].st.no, .fz 2 (l[i].seen.map stA), .int .i64 l[i].kind, .str l[i].paper, .str l[i].text, .str l[i].person] := by simp [List.getD, h, deA]

/-! ### the library's contracts, told of plain data -/
theorem o_pc {f : FuncId} {args : List AV} {r : AV} (vs : List Value) (v : Value) (hb : hasBody Tryz.prog f = true) (ha : ∀ h vs', RL h Lf0 true vs' args → vs' = vs) (hr : ∀ h, RV h Lf0 true v r)
    (H : ∀ w, Calls Tryz.prog f vs.toArray w fun e w' => e = .returned v ∧ Same w w') : Pc Tryz.prog f args (· = r) := by
  refine ⟨hb, fun h w vs' hm hv => ?_⟩
  have := ha h vs' hv
  subst this
  refine (H w).mono ?_
  rintro e w' ⟨rfl, hs⟩
  exact ⟨v, r, h, rfl, rfl, fun b o v e => ⟨hs.cell (hm b o v e).1, (hm b o v e).2⟩, fun _ _ _ x => x, fun b o e n => (n e).elim, hs, hr h⟩
theorem o_str {h : Mem} {v : Value} {s : List UInt8} (r : RV h Lf0 true v (.str s)) : v = .string ⟨s.toArray⟩ := by cases r with | str => rfl
theorem o_two (s p : List UInt8) : ∀ h vs', RL h Lf0 true vs' [.str s, .str p] → vs' = [.string ⟨s.toArray⟩, .string ⟨p.toArray⟩] := by
  intro h vs' r
  cases r with | cons r1 r => cases r with | cons r2 r => cases r; rw [o_str r1, o_str r2]
theorem scompare_pc (s p : List UInt8) : Pc Tryz.prog 96 [.str s, .str p] (· = .int .i64 (Lib.compareBytes s p)) :=
  o_pc [_, _] (.int .i64 (Lib.compareBytes s p)) hB96 (o_two s p) (fun h => .int _ _) fun w => (Any.strings_Compare Tryz.lays106 ⟨s.toArray⟩ ⟨p.toArray⟩ w).mono fun e w' ⟨h1, h2⟩ => ⟨h1, h2 ▸ .refl w⟩

/-! ### the order of stamps -/
def cmpI (a b : Int) : Int := if a < b then -1 else if a > b then 1 else 0
def stCmp (a b : St) : Int := if Lib.compareBytes a.dept b.dept ≠ 0 then Lib.compareBytes a.dept b.dept else cmpI a.no b.no

theorem cb_val : ∀ a b : List UInt8, Lib.compareBytes a b = (if bytesLess a b then -1 else if bytesLess b a then 1 else 0)
  | [], [] => rfl
  | [], _ :: _ => rfl
  | _ :: _, [] => rfl
  | a :: x, b :: y => by
    have ih := cb_val x y
    simp only [Lib.compareBytes, bytesLess, Bool.or_eq_true, decide_eq_true_eq, Bool.and_eq_true, beq_iff_eq]
    by_cases h1 : a < b
    · simp [h1]
    · by_cases h2 : b < a
      · have h3 : ¬ a = b := fun e => by subst e; exact h1 h2
        simp [h1, h2, h3]
      · have h3 : a = b := by
          have e1 := UInt8.not_lt.1 h1
          have e2 := UInt8.not_lt.1 h2
          exact UInt8.le_antisymm e2 e1
        subst h3
        simp [UInt8.lt_irrefl, ih]
theorem bl_irrefl : ∀ a : List UInt8, bytesLess a a = false
  | [] => rfl
  | a :: x => by simp [bytesLess, bl_irrefl x]
theorem bl_trans : ∀ a b c : List UInt8, bytesLess a b = true → bytesLess b c = true → bytesLess a c = true
  | [], [], c, h1, _ => by cases h1
  | _, _ :: _, [], _, h2 => by cases h2
  | _ :: _, [], _, h1, _ => by cases h1
  | [], _ :: _, _ :: _, _, _ => rfl
  | a :: x, b :: y, c :: z, h1, h2 => by
    simp only [bytesLess, Bool.or_eq_true, decide_eq_true_eq, Bool.and_eq_true, beq_iff_eq] at h1 h2 ⊢
    rcases h1 with h1 | ⟨e1, h1⟩
    · rcases h2 with h2 | ⟨e2, h2⟩
      · exact .inl (UInt8.lt_trans h1 h2)
      · subst e2; exact .inl h1
    · subst e1
      rcases h2 with h2 | ⟨e2, h2⟩
      · exact .inl h2
      · subst e2; exact .inr ⟨rfl, bl_trans x y z h1 h2⟩
theorem bl_total : ∀ a b : List UInt8, bytesLess a b = false → bytesLess b a = false → a = b
  | [], [], _, _ => rfl
  | [], _ :: _, h1, _ => by cases h1
  | _ :: _, [], _, h2 => by cases h2
  | a :: x, b :: y, h1, h2 => by
    simp only [bytesLess, Bool.or_eq_false_iff, decide_eq_false_iff_not, Bool.and_eq_false_imp, beq_iff_eq] at h1 h2
    have h3 : a = b := UInt8.le_antisymm (UInt8.not_lt.1 h2.1) (UInt8.not_lt.1 h1.1)
    subst h3
    rw [bl_total x y (h1.2 rfl) (h2.2 rfl)]
theorem bl_asymm {a b : List UInt8} (h : bytesLess a b = true) : bytesLess b a = false := by
  cases hq : bytesLess b a with
  | false => rfl
  | true => have := bl_trans a b a h hq; rw [bl_irrefl] at this; cases this

def stLt (a b : St) : Prop := bytesLess a.dept b.dept = true ∨ (a.dept = b.dept ∧ a.no < b.no)
theorem stCmp_lt {a b : St} : stCmp a b < 0 ↔ stLt a b := by
  unfold stCmp stLt cmpI
  rw [cb_val]
  by_cases h1 : bytesLess a.dept b.dept = true
  · simp [h1]
  · have h1' : bytesLess a.dept b.dept = false := by simpa using h1
    by_cases h2 : bytesLess b.dept a.dept = true
    · have : a.dept ≠ b.dept := fun e => by rw [e, bl_irrefl] at h2; cases h2
      simp [h1', h2, this]
    · have h2' : bytesLess b.dept a.dept = false := by simpa using h2
      have h3 := bl_total _ _ h1' h2'
      have e0 : (if bytesLess a.dept b.dept = true then (-1 : Int) else if bytesLess b.dept a.dept = true then 1 else 0) = 0 := by rw [h1', h2']; rfl
      rw [e0, if_neg (by simp), h1', h3]
      simp only [Bool.false_eq_true, false_or, true_and]
      by_cases h4 : a.no < b.no
      · simp [h4]
      · by_cases h5 : b.no < a.no <;> simp [h4, h5]
theorem stLt_irrefl (a : St) : ¬ stLt a a := by
  unfold stLt
  rw [bl_irrefl]
  simp
theorem stLt_trans {a b c : St} (h1 : stLt a b) (h2 : stLt b c) : stLt a c := by
  unfold stLt at *
  rcases h1 with h1 | ⟨e1, h1⟩ <;> rcases h2 with h2 | ⟨e2, h2⟩
  · exact .inl (bl_trans _ _ _ h1 h2)
  · rw [e2] at h1; exact .inl h1
  · rw [← e1] at h2; exact .inl h2
  · exact .inr ⟨e1.trans e2, by omega⟩
theorem stLt_total {a b : St} (h : ¬ stLt a b) (h2 : ¬ stLt b a) : a = b := by
  unfold stLt at *
  simp only [not_or, Bool.not_eq_true, not_and, Int.not_lt] at h h2
  have e := bl_total _ _ h.1 h2.1
  have h3 := h.2 e
  have h4 := h2.2 e.symm
  cases a; cases b
  simp_all
  omega

theorem isNaN_pc (n : Int) : Pc Tryz.prog 153 [.int .i64 n] (· = .bool false) := by
  refine pc_intro (ct_intro Tryz.func153 rfl Tryz.ntmps153 hB153 (by simp) fun h ρ w => goB (N := 6) Tryz.ntmps153 300 ?_)
  simp only [go_sem]
  exact aret [2] rfl ⟨rfl, rfl⟩
theorem icompare_pc (a b : Int) : Pc Tryz.prog 97 [.int .i64 a, .int .i64 b] (· = .int .i64 (cmpI a b)) := by
  refine pc_intro (ct_intro Tryz.func97 rfl Tryz.ntmps97 hB97 (by simp) fun h ρ w => goB (N := 20) Tryz.ntmps97 300 ?_)
  simp only [go_sem]
  refine pcall1 (isNaN_pc a) rfl (N := 20) Tryz.ntmps97 rfl (goB (N := 20) Tryz.ntmps97 300 ?_)
  simp only [go_sem]
  refine pcall1 (isNaN_pc b) rfl (N := 20) Tryz.ntmps97 rfl (goB (N := 20) Tryz.ntmps97 300 ?_)
  by_cases h1 : a < b
  · have d1 : decide (a < b) = true := by simpa using h1
    simp only [go_sem, d1]
    exact aret [4] rfl ⟨by simp [resV, Av.get, Av.put, cmpI, h1], rfl⟩
  · have d1 : decide (a < b) = false := by simpa using h1
    by_cases h2 : a > b
    · have d2 : decide (a > b) = true := by simpa using h2
      simp only [go_sem, d1, d2]
      exact aret [4] rfl ⟨by simp [resV, Av.get, Av.put, cmpI, h1, h2], rfl⟩
    · have d2 : decide (a > b) = false := by simpa using h2
      simp only [go_sem, d1, d2]
      exact aret [4] rfl ⟨by simp [resV, Av.get, Av.put, cmpI, h1, h2], rfl⟩
theorem or_pc (a b : Int) : Pc Tryz.prog 95 [.fz 1 [.int .i64 a, .int .i64 b]] (· = .int .i64 (if a ≠ 0 then a else b)) := by
  refine pc_intro (ct_intro Tryz.func95 rfl Tryz.ntmps95 hB95 (by simp) fun h ρ w => goB (N := 18) Tryz.ntmps95 300 ?_)
  simp only [go_sem]
  refine aenter (around ?_)
  by_cases h1 : a = 0
  · have d1 : (a != 0) = false := by simpa using h1
    refine goB (N := 18) Tryz.ntmps95 300 ?_
    simp only [go_sem, d1]
    refine aagain (around ?_)
    by_cases h2 : b = 0
    · have d2 : (b != 0) = false := by simpa using h2
      refine goB (N := 18) Tryz.ntmps95 300 ?_
      simp only [go_sem, d2]
      refine aagain (around ?_)
      refine goB (N := 18) Tryz.ntmps95 300 ?_
      simp only [go_sem]
      exact aret [2] rfl ⟨by simp [resV, Av.get, Av.put, h1, h2], rfl⟩
    · have d2 : (b != 0) = true := by simpa using h2
      refine goB (N := 18) Tryz.ntmps95 300 ?_
      simp only [go_sem, d2]
      exact aret [2] rfl ⟨by simp [resV, Av.get, Av.put, h1], rfl⟩
  · have d1 : (a != 0) = true := by simpa using h1
    refine goB (N := 18) Tryz.ntmps95 300 ?_
    simp only [go_sem, d1]
    exact aret [2] rfl ⟨by simp [resV, Av.get, Av.put, h1], rfl⟩
theorem byStamp_pc (a b : St) : Pc Tryz.prog 42 [stA a, stA b] (· = .int .i64 (stCmp a b)) := by
  simp only [stA]
  refine pc_intro (ct_intro Tryz.func42 rfl Tryz.ntmps42 hB42 (by simp) fun h ρ w => goB (N := 17) Tryz.ntmps42 300 ?_)
  simp only [go_sem]
  refine adraw [.int .i64 (Lib.compareBytes a.dept b.dept), .int .i64 (cmpI a.no b.no), .int .i64 (stCmp a b)] mixed (by decide) (N := 17) Tryz.ntmps42 (by decide) 100 ?_
  simp only [go_sem]
  repeat refine And.intro (by first | exact (scompare_pc a.dept b.dept).at | exact (icompare_pc a.no b.no).at | exact (or_pc _ _).at | rfl) ?_
  refine goB (N := 17) Tryz.ntmps42 300 ?_
  simp only [go_sem]
  exact aret [4] rfl ⟨rfl, rfl⟩
theorem stampOrder_pc (a b : St) : Pc Tryz.prog 78 [stA a, stA b] (· = .int .i64 (stCmp a b)) := by
  simp only [stA]
  refine pc_intro (ct_intro Tryz.func78 rfl Tryz.ntmps78 hB78 (by simp) fun h ρ w => goB (N := 17) Tryz.ntmps78 300 ?_)
  simp only [go_sem]
  refine adraw [.int .i64 (Lib.compareBytes a.dept b.dept), .int .i64 (cmpI a.no b.no), .int .i64 (stCmp a b)] mixed (by decide) (N := 17) Tryz.ntmps78 (by decide) 100 ?_
  simp only [go_sem]
  repeat refine And.intro (by first | exact (scompare_pc a.dept b.dept).at | exact (icompare_pc a.no b.no).at | exact (or_pc _ _).at | rfl) ?_
  refine goB (N := 17) Tryz.ntmps78 300 ?_
  simp only [go_sem]
  exact aret [4] rfl ⟨rfl, rfl⟩
end Go.Proofs.YtkomcdohejibmaaGreatDoor
/- Searching lists of stamps and deeds by a function. Own work of this seat. -/
set_option maxRecDepth 100000
set_option linter.unusedSimpArgs false
set_option linter.unusedVariables false
namespace Go.Proofs.YtkomcdohejibmaaGreatDoor
open Go Go.Av Go.RowKit

theorem nr1_caps {caps : List AV} (hc : caps.all frozen0 = true) : caps.all nr1 = true := by
  rw [List.all_eq_true] at hc ⊢
  intro x hx
  have := hc x hx
  cases x <;> first | exact frozen_of0 this | (simp [frozen0] at this)
theorem nr1_cons {a : AV} {caps : List AV} (ha : nr1 a = true) (hc : caps.all frozen0 = true) : (a :: caps).all nr1 = true := by
  simp only [List.all_cons, ha, nr1_caps hc, Bool.and_self]
def idxP {α : Type} (p : α → Bool) (l : List α) : Int := match l.findIdx? p with
  | some i => i
  | none => -1
theorem idxP_none {α : Type} {p : α → Bool} {l : List α} (h : ∀ j, (hj : j < l.length) → p l[j] = false) : idxP p l = -1 := by
  have : l.findIdx? p = none := by
    rw [List.findIdx?_eq_none_iff]
    intro x hx
    obtain ⟨j, hj, rfl⟩ := List.getElem_of_mem hx
    exact h j hj
  simp [idxP, this]
theorem idxP_some {α : Type} {p : α → Bool} {l : List α} {i : Nat} (hi : i < l.length) (hp : p l[i] = true) (h : ∀ j, (hj : j < i) → p (l[j]'(by omega)) = false) : idxP p l = i := by
  have : l.findIdx? p = some i := by
    rw [List.findIdx?_eq_some_iff_getElem]
    exact ⟨hi, hp, fun j hj => by simpa using h j hj⟩
  simp [idxP, this]
theorem idxP_any {α : Type} {p : α → Bool} {l : List α} : decide (idxP p l ≥ 0) = l.any p := by
  unfold idxP
  cases hq : l.findIdx? p with
  | none =>
    rw [List.findIdx?_eq_none_iff] at hq
    have : l.any p = false := by rw [List.any_eq_false]; intro x hx; simp [hq x hx]
    simp [this]
  | some i =>
    rw [List.findIdx?_eq_some_iff_getElem] at hq
    obtain ⟨hi, hp, _⟩ := hq
    have : l.any p = true := List.any_eq_true.2 ⟨_, List.getElem_mem hi, hp⟩
    simp [this]

theorem idxSt_pc (f : FuncId) (caps : List AV) (hc : caps.all frozen0 = true) (p : St → Bool) (l : List St) (hl : l.length < 100000000) (hf : ∀ x ∈ l, Pc Tryz.prog f (stA x :: caps) (· = .bool (p x))) :
    Pc Tryz.prog 141 [.fz 2 (l.map stA), .fn (.func f) caps] (· = .int .i64 (idxP p l)) := by
  refine pc_intro (ct_intro Tryz.func141 rfl Tryz.ntmps141 hB141 (by simp) fun h ρ w => goB (N := 19) Tryz.ntmps141 300 ?_)
  simp only [go_sem]
  refine aloop (ι := Nat) (fun i => l.length - i) (fun i => [(8, .int .i64 i), (7, .int .i64 l.length), (1, .fn (.func f) caps), (0, .fz 2 (l.map stA))]) (fun _ => []) (fun i => i ≤ l.length ∧ ∀ j, (hj : j < l.length) → j < i → p l[j] = false) 0 ⟨by simp, fun j _ h => absurd h (by omega)⟩ ?_ ?_
  · refine Shift.weak ?_
    simp only [wk, go_sem, List.length_map]
  · rintro i ⟨g1, g2⟩ J hJ
    by_cases gi : i < l.length
    · have di : decide ((i : Int) < (l.length : Int)) = true := by simp; omega
      have hfx := hf _ (List.getElem_mem gi)
      simp only [stA] at hfx
      refine goB (N := 19) Tryz.ntmps141 300 ?_
      simp only [go_sem, di, stA_get l i gi, List.length_map]
      repeat refine And.intro (by first | omega | rfl | (simp; omega)) ?_
      cases hp : p l[i] with
      | true =>
        rw [hp] at hfx
        refine pcall1 hfx (nr1_cons rfl hc) (N := 19) Tryz.ntmps141 rfl (goB (N := 19) Tryz.ntmps141 300 ?_)
        simp only [go_sem]
        exact aret [4] rfl ⟨congrArg _ (idxP_some gi hp fun j hj => g2 j (by omega) hj).symm, rfl⟩
      | false =>
        rw [hp] at hfx
        refine pcall1 hfx (nr1_cons rfl hc) (N := 19) Tryz.ntmps141 rfl (goB (N := 19) Tryz.ntmps141 300 ?_)
        simp only [go_sem]
        repeat refine And.intro (by first | omega | rfl) ?_
        rw [show (i : Int) + 1 = ((i + 1 : Nat) : Int) by omega]
        refine ainv (hJ (i + 1) ⟨by omega, fun j hj h => ?_⟩ (by omega)) (Shift.weak ?_)
        · rcases Nat.lt_or_ge j i with h2 | h2
          · exact g2 j hj h2
          · have : j = i := by omega
            subst this; exact hp
        · simp only [wk, go_sem]
    · have di : decide ((i : Int) < (l.length : Int)) = false := by simp; omega
      refine goB (N := 19) Tryz.ntmps141 300 ?_
      simp only [go_sem, di]
      exact aret [4] rfl ⟨congrArg _ (idxP_none fun j hj => g2 j hj (by omega)).symm, rfl⟩
theorem anySt_pc (f : FuncId) (caps : List AV) (hc : caps.all frozen0 = true) (p : St → Bool) (l : List St) (hl : l.length < 100000000) (hf : ∀ x ∈ l, Pc Tryz.prog f (stA x :: caps) (· = .bool (p x))) :
    Pc Tryz.prog 90 [.fz 2 (l.map stA), .fn (.func f) caps] (· = .bool (l.any p)) := by
  refine pc_intro (ct_intro Tryz.func90 rfl Tryz.ntmps90 hB90 (by simp) fun h ρ w => goB (N := 9) Tryz.ntmps90 300 ?_)
  simp only [go_sem]
  refine pcall1 (idxSt_pc f caps hc p l hl hf) (by simp only [List.all_cons, List.all_nil, nr1, Av.frozen, hc, Bool.and_self]) (N := 9) Tryz.ntmps90 rfl (goB (N := 9) Tryz.ntmps90 300 ?_)
  simp only [go_sem]
  refine aret [4] rfl ⟨?_, rfl⟩
  simp only [resV, Av.get, Av.put, cond_true, beq_self_eq_true]
  rw [← idxP_any]

theorem idxDe_pc (f : FuncId) (caps : List AV) (hc : caps.all frozen0 = true) (p : De → Bool) (l : List De) (hl : l.length < 100000000) (hf : ∀ x ∈ l, Pc Tryz.prog f (deA x :: caps) (· = .bool (p x))) :
    Pc Tryz.prog 121 [.fz 7 (l.map deA), .fn (.func f) caps] (· = .int .i64 (idxP p l)) := by
  refine pc_intro (ct_intro Tryz.func121 rfl Tryz.ntmps121 hB121 (by simp) fun h ρ w => goB (N := 19) Tryz.ntmps121 300 ?_)
  simp only [go_sem]
  refine aloop (ι := Nat) (fun i => l.length - i) (fun i => [(8, .int .i64 i), (7, .int .i64 l.length), (1, .fn (.func f) caps), (0, .fz 7 (l.map deA))]) (fun _ => []) (fun i => i ≤ l.length ∧ ∀ j, (hj : j < l.length) → j < i → p l[j] = false) 0 ⟨by simp, fun j _ h => absurd h (by omega)⟩ ?_ ?_
  · refine Shift.weak ?_
    simp only [wk, go_sem, List.length_map]
  · rintro i ⟨g1, g2⟩ J hJ
    by_cases gi : i < l.length
    · have di : decide ((i : Int) < (l.length : Int)) = true := by simp; omega
      have hfx := hf _ (List.getElem_mem gi)
      simp only [deA] at hfx
      refine goB (N := 19) Tryz.ntmps121 300 ?_
      simp only [go_sem, di, deA_get l i gi, List.length_map]
      repeat refine And.intro (by first | omega | rfl | (simp; omega)) ?_
      cases hp : p l[i] with
      | true =>
        rw [hp] at hfx
        refine pcall1 hfx (nr1_cons rfl hc) (N := 19) Tryz.ntmps121 rfl (goB (N := 19) Tryz.ntmps121 300 ?_)
        simp only [go_sem]
        exact aret [4] rfl ⟨congrArg _ (idxP_some gi hp fun j hj => g2 j (by omega) hj).symm, rfl⟩
      | false =>
        rw [hp] at hfx
        refine pcall1 hfx (nr1_cons rfl hc) (N := 19) Tryz.ntmps121 rfl (goB (N := 19) Tryz.ntmps121 300 ?_)
        simp only [go_sem]
        repeat refine And.intro (by first | omega | rfl) ?_
        rw [show (i : Int) + 1 = ((i + 1 : Nat) : Int) by omega]
        refine ainv (hJ (i + 1) ⟨by omega, fun j hj h => ?_⟩ (by omega)) (Shift.weak ?_)
        · rcases Nat.lt_or_ge j i with h2 | h2
          · exact g2 j hj h2
          · have : j = i := by omega
            subst this; exact hp
        · simp only [wk, go_sem]
    · have di : decide ((i : Int) < (l.length : Int)) = false := by simp; omega
      refine goB (N := 19) Tryz.ntmps121 300 ?_
      simp only [go_sem, di]
      exact aret [4] rfl ⟨congrArg _ (idxP_none fun j hj => g2 j hj (by omega)).symm, rfl⟩
theorem anyDe_pc (f : FuncId) (caps : List AV) (hc : caps.all frozen0 = true) (p : De → Bool) (l : List De) (hl : l.length < 100000000) (hf : ∀ x ∈ l, Pc Tryz.prog f (deA x :: caps) (· = .bool (p x))) :
    Pc Tryz.prog 80 [.fz 7 (l.map deA), .fn (.func f) caps] (· = .bool (l.any p)) := by
  refine pc_intro (ct_intro Tryz.func80 rfl Tryz.ntmps80 hB80 (by simp) fun h ρ w => goB (N := 9) Tryz.ntmps80 300 ?_)
  simp only [go_sem]
  refine pcall1 (idxDe_pc f caps hc p l hl hf) (by simp only [List.all_cons, List.all_nil, nr1, Av.frozen, hc, Bool.and_self]) (N := 9) Tryz.ntmps80 rfl (goB (N := 9) Tryz.ntmps80 300 ?_)
  simp only [go_sem]
  refine aret [4] rfl ⟨?_, rfl⟩
  simp only [resV, Av.get, Av.put, cond_true, beq_self_eq_true]
  rw [← idxP_any]
end Go.Proofs.YtkomcdohejibmaaGreatDoor
/- What deeds know; parts of lists of deeds. Own work of this seat. -/
set_option maxRecDepth 100000
set_option linter.unusedSimpArgs false
set_option linter.unusedVariables false
namespace Go.Proofs.YtkomcdohejibmaaGreatDoor
open Go Go.Av Go.RowKit

def covP (s x : St) : Bool := x.dept == s.dept && decide (x.no ≥ s.no)
def coversL (seen : List St) (s : St) : Bool := seen.any (covP s)
def knowsL (d : De) (s : St) : Bool := (d.st.dept == s.dept && decide (s.no < d.st.no)) || coversL d.seen s
def rknowsL (d : De) (s : St) : Bool := if d.st.dept = s.dept then decide (s.no < d.st.no) else coversL d.seen s
/-- lists of sizes that a machine bears -/
def Sz (l : List De) : Prop := l.length < 1000000 ∧ ∀ d ∈ l, d.seen.length < 1000000
theorem Sz.filter {l : List De} (h : Sz l) (p : De → Bool) : Sz (l.filter p) := ⟨Nat.lt_of_le_of_lt (List.length_filter_le _ _) h.1, fun d hd => h.2 d (List.mem_filter.1 hd).1⟩

theorem covFn_pc (s x : St) : Pc Tryz.prog 120 [stA x, .pin 2 [stA s] 0 0] (· = .bool (covP s x)) := by
  simp only [stA, covP]
  refine pc_intro (ct_intro Tryz.func120 rfl Tryz.ntmps120 hB120 (by simp) fun h ρ w => goB (N := 16) Tryz.ntmps120 300 ?_)
  cases h1 : x.dept == s.dept with
  | true =>
    simp only [go_sem, h1]
    exact aret [3] rfl ⟨rfl, rfl⟩
  | false =>
    simp only [go_sem, h1]
    exact aret [3] rfl ⟨rfl, rfl⟩
theorem covers_pc (seen : List St) (s : St) (hl : seen.length < 1000000) : Pc Tryz.prog 65 [.fz 2 (seen.map stA), stA s] (· = .bool (coversL seen s)) := by
  have hf := anySt_pc 120 [.pin 2 [stA s] 0 0] rfl (covP s) seen (by omega) fun x _ => covFn_pc s x
  simp only [stA] at hf ⊢
  refine pc_intro (ct_intro Tryz.func65 rfl Tryz.ntmps65 hB65 (by simp) fun h ρ w => goB (N := 8) Tryz.ntmps65 300 ?_)
  simp only [go_sem]
  refine pcall1 (hf) rfl (N := 8) Tryz.ntmps65 rfl (goB (N := 8) Tryz.ntmps65 300 ?_)
  simp only [go_sem]
  exact aret [4] rfl ⟨rfl, rfl⟩
theorem knows_pc (d : De) (s : St) (hl : d.seen.length < 1000000) : Pc Tryz.prog 71 [deA d, stA s] (· = .bool (knowsL d s)) := by
  have hc := covers_pc d.seen s hl
  simp only [stA, deA] at hc ⊢
  refine pc_intro (ct_intro Tryz.func71 rfl Tryz.ntmps71 hB71 (by simp) fun h ρ w => goB (N := 25) Tryz.ntmps71 300 ?_)
  cases h1 : d.st.dept == s.dept with
  | true =>
    cases h2 : decide (s.no < d.st.no) with
    | true =>
      simp only [go_sem, h1, h2]
      exact aret [4] rfl ⟨by simp [resV, Av.get, Av.put, knowsL, h1, h2], rfl⟩
    | false =>
      simp only [go_sem, h1, h2]
      refine pcall1 (hc) rfl (N := 25) Tryz.ntmps71 rfl (goB (N := 25) Tryz.ntmps71 300 ?_)
      simp only [go_sem]
      exact aret [4] rfl ⟨by simp only [resV, Av.get, Av.put, knowsL, h1, h2]; simp, rfl⟩
  | false =>
    simp only [go_sem, h1]
    refine pcall1 (hc) rfl (N := 25) Tryz.ntmps71 rfl (goB (N := 25) Tryz.ntmps71 300 ?_)
    simp only [go_sem]
    exact aret [4] rfl ⟨by simp only [resV, Av.get, Av.put, knowsL, h1]; simp, rfl⟩

theorem cloneSt_pc (l : List St) (hl : l.length < 1000000) : Pc Tryz.prog 99 [.fz 2 (l.map stA)] (· = .fz 2 (l.map stA)) := by
  refine pc_intro (ct_intro Tryz.func99 rfl Tryz.ntmps99 hB99 (by simp) fun h ρ w => go (N := 8) Tryz.ntmps99 300 ?_)
  cases hq : l.map stA with
  | nil =>
    simp only [go_sem, hq]
    intro b
    cases b with
    | true =>
      refine go (N := 8) Tryz.ntmps99 300 ?_
      simp only [go_sem]
      exact ARet.shift (Shift.nilfz 2 2 rfl) (aret [2] rfl ⟨rfl, rfl⟩)
    | false =>
      refine go (N := 8) Tryz.ntmps99 300 ?_
      simp only [go_sem]
      repeat refine And.intro (by first | omega | rfl | exact .inl rfl | exact .inl trivial | (simp; done)) ?_
      exact ARet.shift (Shift.freeze 2 (id := 0) rfl rfl rfl (Nat.le_refl _) rfl) (aret [2] rfl ⟨rfl, rfl⟩)
  | cons a r =>
    have hlen : (a :: r).length < 1000000 := by rw [← hq]; simpa using hl
    have hfr : (flat (a :: r)).all Av.frozen = true := by rw [← hq]; exact stA_frz l
    simp only [List.length_cons] at hlen
    simp only [go_sem]
    repeat refine And.intro (by first | omega | rfl | exact .inl rfl | exact .inl trivial | (simp; done) | (simp; omega)) ?_
    exact ARet.shift (Shift.freeze 2 (id := 0) (l := a :: r) rfl rfl (by simp) (by simp) hfr) (aret [2] rfl ⟨by simp [resV, Av.get, Av.put], rfl⟩)
end Go.Proofs.YtkomcdohejibmaaGreatDoor
