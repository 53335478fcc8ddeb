/- A function that only reads, called with a closure over memory of one's own. Own work of this seat. -/
import Derived.Test.YtkfpiadgjbhcpaaGreatDoorT24
import Derived.Test.YtkfpiadgjbhcpaaGreatDoorT21
import Derived.Test.YtkfpiadgjbhcpaaGreatDoorT23
import Derived.Test.YtkfpiadgjbhcpaaGreatDoorT19
import Derived.Test.YtkfpiadgjbhcpaaGreatDoorT14
import Derived.Test.YtkfpiadgjbhcpaaGreatDoorT22
import Derived.Test.YtkfpiadgjbhcpaaGreatDoorT17
set_option linter.unusedSimpArgs false
set_option linter.unusedVariables false
set_option linter.unusedSectionVars false
namespace Go.Av
open Go Go.RowKit
variable [Tr]

/-- what a value of one's own is, told as frozen: pointers too -/
def borP (n : Nat) (s : List Blk) : AV → AV
  | .ptr id m i off => match s.getD id .dead with
    | .arr e l => bif decide (m = l.length) && decide (i < l.length) then .pin e (l.map (borC n s)) i off else .any
    | _ => .any
  | x => borC n s x
/-- and functions over such values -/
def borF (n : Nat) (s : List Blk) : AV → AV
  | .fn f r => .fn f (r.map (borP n s))
  | x => borP n s x
section
variable {h : Mem} {ρ : Own} {s : List Blk} {w : World}
theorem borP_ok (m : Mine h ρ s w) (n : Nat) {v : Value} {a : AV} (r : RV h (Lf ρ s) false v a) : RV (allOf w) Lf0 true v (borP n s a) := by
  cases a with
  | ptr id k i off =>
    have hl := (inv_ptr r).2
    simp only [borP]
    cases hq : s[id]? with
    | none =>
      have hgd : s.getD id .dead = .dead := by rw [List.getD_eq_getElem?_getD, hq]; rfl
      rw [hgd]
      exact .any _
    | some b =>
      have hgd : s.getD id .dead = b := by rw [List.getD_eq_getElem?_getD, hq]; rfl
      rw [hgd]
      cases b with
      | arr e l =>
        simp only
        cases hd : decide (k = l.length) && decide (i < l.length) with
        | false => exact .any _
        | true =>
          simp only [Bool.and_eq_true, decide_eq_true_eq] at hd
          obtain ⟨hd1, hd⟩ := hd
          simp only [LfC, hq] at hl
          obtain ⟨_, g, tot, h1, rfl⟩ := hl.2 hd1
          simp only [cond_true]
          rcases m.own id _ hq with ⟨_, hn⟩ | ⟨g', tot', cur, t, h3, h4, h5, h6, h7, h8, h9, h10, h11⟩
          · rw [hn] at h1; cases h1
          · rw [h3] at h1
            simp only [Option.some.injEq, Prod.mk.injEq] at h1
            obtain ⟨rfl, rfl⟩ := h1
            have hfl := flat_length h9
            have hr : RL (allOf w) Lf0 true (cur.toList.take (l.length * e)) (flat (l.map (borC n s))) := by
              rw [bor_flat]
              exact bor_list (fun r => bor_ok m n r) h11
            have := RV.pin (h := allOf w) (Lf := Lf0) (fl := true) g' 0 e (l.map (borC n s)) _ i off hr (fun x hx => by
              obtain ⟨y, hy, rfl⟩ := List.mem_map.1 hx
              rw [bor_cells, List.length_map]
              exact h9 y hy) (fun k v hk => by
              rw [List.getElem?_take] at hk
              split at hk
              · have h12 := h10 v (List.mem_of_getElem? hk)
                unfold allOf
                rw [h4.cell, ← Array.getElem?_toList, Nat.zero_add, hk]
                simp [h12]
              · simp at hk) (by rw [List.length_map]; exact hd)
            rwa [Nat.zero_add] at this
      | _ => exact .any _
  | _ => exact bor_val m n r
theorem borP_list (m : Mine h ρ s w) (n : Nat) : ∀ {l : List AV} {vs : List Value}, RL h (Lf ρ s) false vs l → RL (allOf w) Lf0 true vs (l.map (borP n s))
  | [], _, r => by cases r; exact .nil
  | a :: l, _, r => by cases r with | cons r1 r2 => exact .cons (borP_ok m n r1) (borP_list m n r2)
theorem borF_ok (m : Mine h ρ s w) (n : Nat) {v : Value} {a : AV} (r : RV h (Lf ρ s) false v a) : RV (allOf w) Lf0 true v (borF n s a) := by
  cases a with
  | fn f l =>
    obtain ⟨vs, rfl, rl⟩ := inv_fn r
    exact .fn f vs _ (borP_list m n rl)
  | _ => exact borP_ok m n r
theorem borF_args (m : Mine h ρ s w) (n : Nat) : ∀ {l : List AV} {vs : List Value}, RL h (Lf ρ s) false vs l → RL (allOf w) Lf0 true vs (l.map (borF n s))
  | [], _, r => by cases r; exact .nil
  | a :: l, _, r => by cases r with | cons r1 r2 => exact .cons (borF_ok m n r1) (borF_args m n r2)
end
/-- a function that only reads what is frozen, called with memory of one's own, pointers and functions over it: this stays -/
theorem Ct.borrowF {P : Program} {f : FuncId} {args : List AV} {post : AV → Prop} (n : Nat) (s : List Blk) (hc : Pc P f (args.map (borF n s)) post) (hp : ∀ r, post r → flatV r = true) : Ct P f args s (fun r s' => post r ∧ s' = s) := by
  refine ⟨hc.1, fun h ρ w vs m r => ?_⟩
  refine (hc.2 (allOf w) w vs allOf_mem (borF_args m n r)).mono ?_
  rintro en w' ⟨v, r, h', rfl, hpo, hm', _, _, hs, rv⟩
  refine ⟨v, r, s, h, ρ, rfl, ⟨hpo, rfl⟩, m.same hs, Later.same hs, ?_⟩
  have := hp r hpo
  cases rv with
  | int k n => exact .int k n
  | bool b => exact .bool b
  | str s => exact .str s
  | _ => cases this
theorem CtH.borrowF {P : Program} {g : Std} {f : FuncId} {args : List AV} {post : AV → Prop} (n : Nat) (s : List Blk) (hc : PcH P g f (args.map (borF n s)) post) (hp : ∀ r, post r → flatV r = true) : CtH P g f args s (fun r s' => post r ∧ s' = s) := by
  refine ⟨hc.1, fun h ρ w vs hg m r => ?_⟩
  refine (hc.2 (allOf w) w vs (fun k o e => (hg k o e).1) allOf_mem (borF_args m n r)).mono ?_
  rintro en w' ⟨v, r, h', rfl, hpo, hm', _, _, hs, rv⟩
  refine ⟨v, r, s, h, ρ, rfl, ⟨hpo, rfl⟩, m.same hs, Later.same hs, ?_⟩
  have := hp r hpo
  cases rv with
  | int k n => exact .int k n
  | bool b => exact .bool b
  | str s => exact .str s
  | _ => cases this
end Go.Av
set_option maxRecDepth 100000
namespace Go.Proofs.YtkfpiadgjbhcpaaGreatDoor
open Go Go.Av Go.RowKit

structure Rl where
  name : List UInt8
  rate : Int
  start : Int
  long : Int
  drift : Int
structure Wn where
  frm : Int
  to' : Int
structure Spt where
  scene : Int
  para : Int
  at' : Int
def rlA (x : Rl) : AV := .agg [.str x.name, .int .i64 x.rate, .int .i64 x.start, .int .i64 x.long, .int .i64 x.drift]
def cvA (x : Cv) : AV := .agg [.int .i64 x.para, .int .i64 x.inn, .int .i64 x.out, .bool x.on]
def tkA (x : Tk) : AV := .agg [.str x.scene, .str x.setup, .int .i64 x.number, .str x.roll, .str x.sound, .int .i64 x.inn, .int .i64 x.out, .bool x.good, .fz 4 (x.covers.map cvA)]
def wnA (x : Wn) : AV := .agg [.int .i64 x.frm, .int .i64 x.to']
theorem rlA_get (l : List Rl) (i : Nat) (h : i < l.length) : List.getD (List.map rlA l) i .any = .agg [.str l[i].name, .int .i64 l[i].rate, .int .i64 l[i].start, .int .i64 l[i].long, .int .i64 l[i].drift] := by simp [List.getD, h, rlA]
theorem cvA_get (l : List Cv) (i : Nat) (h : i < l.length) : List.getD (List.map cvA l) i .any = .agg [.int .i64 l[i].para, .int .i64 l[i].inn, .int .i64 l[i].out, .bool l[i].on] := by simp [List.getD, h, cvA]
theorem tkA_get (l : List Tk) (i : Nat) (h : i < l.length) : List.getD (List.map tkA l) i .any = .agg [.str l[i].scene, .str l[i].setup, .int .i64 l[i].number, .str l[i].roll, .str l[i].sound, .int .i64 l[i].inn, .int .i64 l[i].out, .bool l[i].good, .fz 4 (l[i].covers.map cvA)] := by simp [List.getD, h, tkA]
theorem wnA_get (l : List Wn) (i : Nat) (h : i < l.length) : List.getD (List.map wnA l) i .any = .agg [.int .i64 l[i].frm, .int .i64 l[i].to'] := by simp [List.getD, h, wnA]
theorem scA_get (l : List Sc) (i : Nat) (h : i < l.length) : List.getD (List.map scA l) i .any = .agg [.str l[i].no, .int .i64 l[i].place, .str l[i].set, .int .i64 l[i].time, .fz 2 (l[i].paras.map paA)] := by simp [List.getD, h, scA]
theorem paA_get (l : List Pa) (i : Nat) (h : i < l.length) : List.getD (List.map paA l) i .any = .agg [.int .i64 l[i].kind, .str l[i].text] := by simp [List.getD, h, paA]
theorem take_map {α β : Type} (f : α → β) (l : List α) : (l.map f).take l.length = l.map f := by rw [← List.length_map f, List.take_length]

theorem nr1_caps {caps : List AV} (hc : caps.all frozen0 = true) : caps.all nr1 = true := by
  rw [List.all_eq_true] at hc ⊢
  intro x hx
  have := hc x hx
  cases x <;> first | exact frozen_of0 this | (simp [frozen0] at this)
theorem nr1_cons {a : AV} {caps : List AV} (ha : nr1 a = true) (hc : caps.all frozen0 = true) : (a :: caps).all nr1 = true := by
  simp only [List.all_cons, ha, nr1_caps hc, Bool.and_self]
def idxP {α : Type} (p : α → Bool) (l : List α) : Int := match l.findIdx? p with
  | some i => i
  | none => -1
theorem idxP_none {α : Type} {p : α → Bool} {l : List α} (h : ∀ j, (hj : j < l.length) → p l[j] = false) : idxP p l = -1 := by
  have : l.findIdx? p = none := by
    rw [List.findIdx?_eq_none_iff]
    intro x hx
    obtain ⟨j, hj, rfl⟩ := List.getElem_of_mem hx
    exact h j hj
  simp [idxP, this]
theorem idxP_some {α : Type} {p : α → Bool} {l : List α} {i : Nat} (hi : i < l.length) (hp : p l[i] = true) (h : ∀ j, (hj : j < i) → p (l[j]'(by omega)) = false) : idxP p l = i := by
  have : l.findIdx? p = some i := by
    rw [List.findIdx?_eq_some_iff_getElem]
    exact ⟨hi, hp, fun j hj => by simpa using h j hj⟩
  simp [idxP, this]
theorem idxP_any {α : Type} {p : α → Bool} {l : List α} : decide (idxP p l ≥ 0) = l.any p := by
  unfold idxP
  cases hq : l.findIdx? p with
  | none =>
    rw [List.findIdx?_eq_none_iff] at hq
    have : l.any p = false := by rw [List.any_eq_false]; intro x hx; simp [hq x hx]
    simp [this]
  | some i =>
    rw [List.findIdx?_eq_some_iff_getElem] at hq
    obtain ⟨hi, hp, _⟩ := hq
    have : l.any p = true := List.any_eq_true.2 ⟨_, List.getElem_mem hi, hp⟩
    simp [this]

theorem idxSc_pc (f : FuncId) (caps : List AV) (hc : caps.all frozen0 = true) (p : Sc → Bool) (l : List Sc) (hl : l.length < 100000000) (hf : ∀ x ∈ l, Pc Tryz.prog f (scA x :: caps) (· = .bool (p x))) :
    Pc Tryz.prog 136 [.fz 5 (l.map scA), .fn (.func f) caps] (· = .int .i64 (idxP p l)) := by
  refine pc_intro (ct_intro Tryz.func136 rfl Tryz.ntmps136 hB136 (by simp) fun h ρ w => goB (N := 19) Tryz.ntmps136 300 ?_)
  simp only [go_sem]
  refine aloop (ι := Nat) (fun i => l.length - i) (fun i => [(8, .int .i64 i), (7, .int .i64 l.length), (1, .fn (.func f) caps), (0, .fz 5 (l.map scA))]) (fun _ => []) (fun i => i ≤ l.length ∧ ∀ j, (hj : j < l.length) → j < i → p l[j] = false) 0 ⟨by simp, fun j _ h => absurd h (by omega)⟩ ?_ ?_
  · refine Shift.weak ?_
    simp only [wk, go_sem, List.length_map]
  · rintro i ⟨g1, g2⟩ J hJ
    by_cases gi : i < l.length
    · have di : decide ((i : Int) < (l.length : Int)) = true := by simp; omega
      have hfx := hf _ (List.getElem_mem gi)
      simp only [scA] at hfx
      refine goB (N := 19) Tryz.ntmps136 300 ?_
      simp only [go_sem, di, scA_get l i gi, List.length_map]
      repeat refine And.intro (by first | omega | rfl | (simp; omega)) ?_
      cases hp : p l[i] with
      | true =>
        rw [hp] at hfx
        refine pcall1 hfx (nr1_cons rfl hc) (N := 19) Tryz.ntmps136 rfl (goB (N := 19) Tryz.ntmps136 300 ?_)
        simp only [go_sem]
        exact aret [4] rfl ⟨congrArg _ (idxP_some gi hp fun j hj => g2 j (by omega) hj).symm, rfl⟩
      | false =>
        rw [hp] at hfx
        refine pcall1 hfx (nr1_cons rfl hc) (N := 19) Tryz.ntmps136 rfl (goB (N := 19) Tryz.ntmps136 300 ?_)
        simp only [go_sem]
        repeat refine And.intro (by first | omega | rfl) ?_
        rw [show (i : Int) + 1 = ((i + 1 : Nat) : Int) by omega]
        refine ainv (hJ (i + 1) ⟨by omega, fun j hj h => ?_⟩ (by omega)) (Shift.weak ?_)
        · rcases Nat.lt_or_ge j i with h2 | h2
          · exact g2 j hj h2
          · have : j = i := by omega
            subst this; exact hp
        · simp only [wk, go_sem]
    · have di : decide ((i : Int) < (l.length : Int)) = false := by simp; omega
      refine goB (N := 19) Tryz.ntmps136 300 ?_
      simp only [go_sem, di]
      exact aret [4] rfl ⟨congrArg _ (idxP_none fun j hj => g2 j hj (by omega)).symm, rfl⟩
theorem anySc_pc (f : FuncId) (caps : List AV) (hc : caps.all frozen0 = true) (p : Sc → Bool) (l : List Sc) (hl : l.length < 100000000) (hf : ∀ x ∈ l, Pc Tryz.prog f (scA x :: caps) (· = .bool (p x))) :
    Pc Tryz.prog 80 [.fz 5 (l.map scA), .fn (.func f) caps] (· = .bool (l.any p)) := by
  refine pc_intro (ct_intro Tryz.func80 rfl Tryz.ntmps80 hB80 (by simp) fun h ρ w => goB (N := 9) Tryz.ntmps80 300 ?_)
  simp only [go_sem]
  refine pcall1 (idxSc_pc f caps hc p l hl hf) (by simp only [List.all_cons, List.all_nil, nr1, Av.frozen, hc, Bool.and_self]) (N := 9) Tryz.ntmps80 rfl (goB (N := 9) Tryz.ntmps80 300 ?_)
  simp only [go_sem]
  refine aret [4] rfl ⟨?_, rfl⟩
  simp only [resV, Av.get, Av.put, cond_true, beq_self_eq_true]
  rw [← idxP_any]

theorem idxRl_pc (f : FuncId) (caps : List AV) (hc : caps.all frozen0 = true) (p : Rl → Bool) (l : List Rl) (hl : l.length < 100000000) (hf : ∀ x ∈ l, Pc Tryz.prog f (rlA x :: caps) (· = .bool (p x))) :
    Pc Tryz.prog 110 [.fz 5 (l.map rlA), .fn (.func f) caps] (· = .int .i64 (idxP p l)) := by
  refine pc_intro (ct_intro Tryz.func110 rfl Tryz.ntmps110 hB110 (by simp) fun h ρ w => goB (N := 19) Tryz.ntmps110 300 ?_)
  simp only [go_sem]
  refine aloop (ι := Nat) (fun i => l.length - i) (fun i => [(8, .int .i64 i), (7, .int .i64 l.length), (1, .fn (.func f) caps), (0, .fz 5 (l.map rlA))]) (fun _ => []) (fun i => i ≤ l.length ∧ ∀ j, (hj : j < l.length) → j < i → p l[j] = false) 0 ⟨by simp, fun j _ h => absurd h (by omega)⟩ ?_ ?_
  · refine Shift.weak ?_
    simp only [wk, go_sem, List.length_map]
  · rintro i ⟨g1, g2⟩ J hJ
    by_cases gi : i < l.length
    · have di : decide ((i : Int) < (l.length : Int)) = true := by simp; omega
      have hfx := hf _ (List.getElem_mem gi)
      simp only [rlA] at hfx
      refine goB (N := 19) Tryz.ntmps110 300 ?_
      simp only [go_sem, di, rlA_get l i gi, List.length_map]
      repeat refine And.intro (by first | omega | rfl | (simp; omega)) ?_
      cases hp : p l[i] with
      | true =>
        rw [hp] at hfx
        refine pcall1 hfx (nr1_cons rfl hc) (N := 19) Tryz.ntmps110 rfl (goB (N := 19) Tryz.ntmps110 300 ?_)
        simp only [go_sem]
        exact aret [4] rfl ⟨congrArg _ (idxP_some gi hp fun j hj => g2 j (by omega) hj).symm, rfl⟩
      | false =>
        rw [hp] at hfx
        refine pcall1 hfx (nr1_cons rfl hc) (N := 19) Tryz.ntmps110 rfl (goB (N := 19) Tryz.ntmps110 300 ?_)
        simp only [go_sem]
        repeat refine And.intro (by first | omega | rfl) ?_
        rw [show (i : Int) + 1 = ((i + 1 : Nat) : Int) by omega]
        refine ainv (hJ (i + 1) ⟨by omega, fun j hj h => ?_⟩ (by omega)) (Shift.weak ?_)
        · rcases Nat.lt_or_ge j i with h2 | h2
          · exact g2 j hj h2
          · have : j = i := by omega
            subst this; exact hp
        · simp only [wk, go_sem]
    · have di : decide ((i : Int) < (l.length : Int)) = false := by simp; omega
      refine goB (N := 19) Tryz.ntmps110 300 ?_
      simp only [go_sem, di]
      exact aret [4] rfl ⟨congrArg _ (idxP_none fun j hj => g2 j hj (by omega)).symm, rfl⟩
theorem anyRl_pc (f : FuncId) (caps : List AV) (hc : caps.all frozen0 = true) (p : Rl → Bool) (l : List Rl) (hl : l.length < 100000000) (hf : ∀ x ∈ l, Pc Tryz.prog f (rlA x :: caps) (· = .bool (p x))) :
    Pc Tryz.prog 153 [.fz 5 (l.map rlA), .fn (.func f) caps] (· = .bool (l.any p)) := by
  refine pc_intro (ct_intro Tryz.func153 rfl Tryz.ntmps153 hB153 (by simp) fun h ρ w => goB (N := 9) Tryz.ntmps153 300 ?_)
  simp only [go_sem]
  refine pcall1 (idxRl_pc f caps hc p l hl hf) (by simp only [List.all_cons, List.all_nil, nr1, Av.frozen, hc, Bool.and_self]) (N := 9) Tryz.ntmps153 rfl (goB (N := 9) Tryz.ntmps153 300 ?_)
  simp only [go_sem]
  refine aret [4] rfl ⟨?_, rfl⟩
  simp only [resV, Av.get, Av.put, cond_true, beq_self_eq_true]
  rw [← idxP_any]

theorem idxWn_pc (f : FuncId) (caps : List AV) (hc : caps.all frozen0 = true) (p : Wn → Bool) (l : List Wn) (hl : l.length < 100000000) (hf : ∀ x ∈ l, Pc Tryz.prog f (wnA x :: caps) (· = .bool (p x))) :
    Pc Tryz.prog 163 [.fz 2 (l.map wnA), .fn (.func f) caps] (· = .int .i64 (idxP p l)) := by
  refine pc_intro (ct_intro Tryz.func163 rfl Tryz.ntmps163 hB163 (by simp) fun h ρ w => goB (N := 19) Tryz.ntmps163 300 ?_)
  simp only [go_sem]
  refine aloop (ι := Nat) (fun i => l.length - i) (fun i => [(8, .int .i64 i), (7, .int .i64 l.length), (1, .fn (.func f) caps), (0, .fz 2 (l.map wnA))]) (fun _ => []) (fun i => i ≤ l.length ∧ ∀ j, (hj : j < l.length) → j < i → p l[j] = false) 0 ⟨by simp, fun j _ h => absurd h (by omega)⟩ ?_ ?_
  · refine Shift.weak ?_
    simp only [wk, go_sem, List.length_map]
  · rintro i ⟨g1, g2⟩ J hJ
    by_cases gi : i < l.length
    · have di : decide ((i : Int) < (l.length : Int)) = true := by simp; omega
      have hfx := hf _ (List.getElem_mem gi)
      simp only [wnA] at hfx
      refine goB (N := 19) Tryz.ntmps163 300 ?_
      simp only [go_sem, di, wnA_get l i gi, List.length_map]
      repeat refine And.intro (by first | omega | rfl | (simp; omega)) ?_
      cases hp : p l[i] with
      | true =>
        rw [hp] at hfx
        refine pcall1 hfx (nr1_cons rfl hc) (N := 19) Tryz.ntmps163 rfl (goB (N := 19) Tryz.ntmps163 300 ?_)
        simp only [go_sem]
        exact aret [4] rfl ⟨congrArg _ (idxP_some gi hp fun j hj => g2 j (by omega) hj).symm, rfl⟩
      | false =>
        rw [hp] at hfx
        refine pcall1 hfx (nr1_cons rfl hc) (N := 19) Tryz.ntmps163 rfl (goB (N := 19) Tryz.ntmps163 300 ?_)
        simp only [go_sem]
        repeat refine And.intro (by first | omega | rfl) ?_
        rw [show (i : Int) + 1 = ((i + 1 : Nat) : Int) by omega]
        refine ainv (hJ (i + 1) ⟨by omega, fun j hj h => ?_⟩ (by omega)) (Shift.weak ?_)
        · rcases Nat.lt_or_ge j i with h2 | h2
          · exact g2 j hj h2
          · have : j = i := by omega
            subst this; exact hp
        · simp only [wk, go_sem]
    · have di : decide ((i : Int) < (l.length : Int)) = false := by simp; omega
      refine goB (N := 19) Tryz.ntmps163 300 ?_
      simp only [go_sem, di]
      exact aret [4] rfl ⟨congrArg _ (idxP_none fun j hj => g2 j hj (by omega)).symm, rfl⟩
theorem anyWn_pc (f : FuncId) (caps : List AV) (hc : caps.all frozen0 = true) (p : Wn → Bool) (l : List Wn) (hl : l.length < 100000000) (hf : ∀ x ∈ l, Pc Tryz.prog f (wnA x :: caps) (· = .bool (p x))) :
    Pc Tryz.prog 96 [.fz 2 (l.map wnA), .fn (.func f) caps] (· = .bool (l.any p)) := by
  refine pc_intro (ct_intro Tryz.func96 rfl Tryz.ntmps96 hB96 (by simp) fun h ρ w => goB (N := 9) Tryz.ntmps96 300 ?_)
  simp only [go_sem]
  refine pcall1 (idxWn_pc f caps hc p l hl hf) (by simp only [List.all_cons, List.all_nil, nr1, Av.frozen, hc, Bool.and_self]) (N := 9) Tryz.ntmps96 rfl (goB (N := 9) Tryz.ntmps96 300 ?_)
  simp only [go_sem]
  refine aret [4] rfl ⟨?_, rfl⟩
  simp only [resV, Av.get, Av.put, cond_true, beq_self_eq_true]
  rw [← idxP_any]

theorem idxTk_pc (f : FuncId) (caps : List AV) (hc : caps.all frozen0 = true) (p : Tk → Bool) (l : List Tk) (hl : l.length < 100000000) (hf : ∀ x ∈ l, Pc Tryz.prog f (tkA x :: caps) (· = .bool (p x))) :
    Pc Tryz.prog 29 [.fz 9 (l.map tkA), .fn (.func f) caps] (· = .int .i64 (idxP p l)) := by
  refine pc_intro (ct_intro Tryz.func29 rfl Tryz.ntmps29 hB29 (by simp) fun h ρ w => goB (N := 19) Tryz.ntmps29 300 ?_)
  simp only [go_sem]
  refine aloop (ι := Nat) (fun i => l.length - i) (fun i => [(8, .int .i64 i), (7, .int .i64 l.length), (1, .fn (.func f) caps), (0, .fz 9 (l.map tkA))]) (fun _ => []) (fun i => i ≤ l.length ∧ ∀ j, (hj : j < l.length) → j < i → p l[j] = false) 0 ⟨by simp, fun j _ h => absurd h (by omega)⟩ ?_ ?_
  · refine Shift.weak ?_
    simp only [wk, go_sem, List.length_map]
  · rintro i ⟨g1, g2⟩ J hJ
    by_cases gi : i < l.length
    · have di : decide ((i : Int) < (l.length : Int)) = true := by simp; omega
      have hfx := hf _ (List.getElem_mem gi)
      simp only [tkA] at hfx
      refine goB (N := 19) Tryz.ntmps29 300 ?_
      simp only [go_sem, di, tkA_get l i gi, List.length_map]
      repeat refine And.intro (by first | omega | rfl | (simp; omega)) ?_
      cases hp : p l[i] with
      | true =>
        rw [hp] at hfx
        refine pcall1 hfx (nr1_cons rfl hc) (N := 19) Tryz.ntmps29 rfl (goB (N := 19) Tryz.ntmps29 300 ?_)
        simp only [go_sem]
        exact aret [4] rfl ⟨congrArg _ (idxP_some gi hp fun j hj => g2 j (by omega) hj).symm, rfl⟩
      | false =>
        rw [hp] at hfx
        refine pcall1 hfx (nr1_cons rfl hc) (N := 19) Tryz.ntmps29 rfl (goB (N := 19) Tryz.ntmps29 300 ?_)
        simp only [go_sem]
        repeat refine And.intro (by first | omega | rfl) ?_
        rw [show (i : Int) + 1 = ((i + 1 : Nat) : Int) by omega]
        refine ainv (hJ (i + 1) ⟨by omega, fun j hj h => ?_⟩ (by omega)) (Shift.weak ?_)
        · rcases Nat.lt_or_ge j i with h2 | h2
          · exact g2 j hj h2
          · have : j = i := by omega
            subst this; exact hp
        · simp only [wk, go_sem]
    · have di : decide ((i : Int) < (l.length : Int)) = false := by simp; omega
      refine goB (N := 19) Tryz.ntmps29 300 ?_
      simp only [go_sem, di]
      exact aret [4] rfl ⟨congrArg _ (idxP_none fun j hj => g2 j hj (by omega)).symm, rfl⟩
theorem anyTk_pc (f : FuncId) (caps : List AV) (hc : caps.all frozen0 = true) (p : Tk → Bool) (l : List Tk) (hl : l.length < 100000000) (hf : ∀ x ∈ l, Pc Tryz.prog f (tkA x :: caps) (· = .bool (p x))) :
    Pc Tryz.prog 159 [.fz 9 (l.map tkA), .fn (.func f) caps] (· = .bool (l.any p)) := by
  refine pc_intro (ct_intro Tryz.func159 rfl Tryz.ntmps159 hB159 (by simp) fun h ρ w => goB (N := 9) Tryz.ntmps159 300 ?_)
  simp only [go_sem]
  refine pcall1 (idxTk_pc f caps hc p l hl hf) (by simp only [List.all_cons, List.all_nil, nr1, Av.frozen, hc, Bool.and_self]) (N := 9) Tryz.ntmps159 rfl (goB (N := 9) Tryz.ntmps159 300 ?_)
  simp only [go_sem]
  refine aret [4] rfl ⟨?_, rfl⟩
  simp only [resV, Av.get, Av.put, cond_true, beq_self_eq_true]
  rw [← idxP_any]


set_option maxRecDepth 100000
set_option linter.unusedSimpArgs false
set_option linter.unusedVariables false


theorem below_pc (x n : Int) (h1 : 1 ≤ n) (h2 : n ≤ 9223372036854775807) :
    Pc Tryz.prog 143 [.int .i64 x, .int .i64 n] (· = .int .i64 (x % n)) := by
  refine pc_intro (ct_intro Tryz.func143 rfl Tryz.ntmps143 hB143 (by simp) fun h ρ w => goW (N := 16) Tryz.ntmps143 200 ?_)
  have hm : x.tmod n = if 0 ≤ x ∨ n ∣ x then x % n else x % n - n.natAbs := by
    rw [Int.tmod_eq_emod]; split <;> simp
  have hlt := Int.emod_lt_of_pos x (show 0 < n by omega)
  have hge := Int.emod_nonneg x (show n ≠ 0 by omega)
  have hna : (n.natAbs : Int) = n := by omega
  rw [hna] at hm
  simp only [go_sem, xint]
  refine ⟨fun _ => by omega, fun _ => ⟨by omega, fun h3 => ?_, fun h3 => ?_⟩⟩
  · refine aret [4] rfl ⟨?_, rfl⟩
    show AV.int .i64 _ = _
    rw [hm] at h3 ⊢
    split at h3
    · omega
    · rw [if_neg (by assumption), show x % n - n + n = x % n by omega]
      exact congrArg _ (IntWalk.i64_in _ ⟨by omega, by omega⟩)
  · refine aret [4] rfl ⟨?_, rfl⟩
    show AV.int .i64 _ = _
    rw [hm] at h3 ⊢
    split at h3
    · rw [if_pos (by assumption)]
    · omega

/-- the stream's fields -/
def str (L : List Int) (at' : Int) : AV := .agg [.fz 1 (L.map (.int .i64)), .int .i64 at']

def noDbl : List UInt8 → Bool
  | a :: b :: r => !(a == 32 && b == 32) && noDbl (b :: r)
  | _ => true

structure TextOk (p : UInt8 → Bool) (t : List UInt8) : Prop where
  ne : t ≠ []
  all : t.all p = true
  dbl : noDbl t = true
  hd : t.head? ≠ some 32
  lst : t.getLast? ≠ some 32

theorem index_dbl : ∀ t : List UInt8, noDbl t = true → Lib.index t [32, 32] = -1
  | [], _ => rfl
  | [a], _ => by
    have h : ([32, 32] : List UInt8).isPrefixOf [a] = false := by simp [List.isPrefixOf]
    simp only [Lib.index, h, if_false, Bool.false_eq_true]
    rfl
  | a :: b :: r, h => by
    simp only [noDbl, Bool.and_eq_true, Bool.not_eq_true'] at h
    have h1 : ([32, 32] : List UInt8).isPrefixOf (a :: b :: r) = false := by
      cases hq : ([32, 32] : List UInt8).isPrefixOf (a :: b :: r) with
      | false => rfl
      | true =>
        simp [List.isPrefixOf] at hq
        obtain ⟨rfl, rfl⟩ := hq
        simp at h
    rw [Lib.index]
    simp only [h1, Bool.false_eq_true, if_false]
    rw [index_dbl (b :: r) h.2]
    rfl

theorem pre_blank {t : List UInt8} (h : t.head? ≠ some 32) : Lib.hasPrefix t [32] = false := by
  cases t with
  | nil => rfl
  | cons a r =>
    simp only [Lib.hasPrefix, List.isPrefixOf, Bool.and_true]
    simp at h
    simpa using fun e => h e.symm
theorem suf_blank {t : List UInt8} (h : t.getLast? ≠ some 32) : Lib.hasSuffix t [32] = false := by
  unfold Lib.hasSuffix
  cases hq : ([32] : List UInt8).isSuffixOf t with
  | false => rfl
  | true =>
    rw [List.isSuffixOf_iff_suffix] at hq
    obtain ⟨r, rfl⟩ := hq
    simp at h
theorem plain_of {p : UInt8 → Bool} {t : List UInt8} (hp : ∀ c, p c = true → okB c = true) (h : TextOk p t) : plainL t = true := by
  have h1 : t.all okB = true := by
    have := h.all
    rw [List.all_eq_true] at this ⊢
    exact fun c hc => hp c (this c hc)
  simp [plainL, h1, pre_blank h.hd, suf_blank h.lst, Lib.contains, index_dbl t h.dbl]

theorem noDbl_append : ∀ {a b : List UInt8}, noDbl a = true → noDbl b = true → a.getLast? ≠ some 32 ∨ b.head? ≠ some 32 → noDbl (a ++ b) = true
  | [], b, _, h, _ => h
  | [x], [], _, _, _ => rfl
  | [x], y :: b, _, h, e => by
    simp only [List.cons_append, List.nil_append, noDbl, h, Bool.and_true, Bool.not_eq_true', Bool.and_eq_false_iff]
    rcases e with e | e
    · left; simpa using e
    · right; simpa using e
  | x :: y :: a, b, h, h', e => by
    simp only [noDbl, Bool.and_eq_true] at h
    have ih := noDbl_append (a := y :: a) h.2 h' (by simpa using e)
    simp only [List.cons_append, noDbl, Bool.and_eq_true] at ih ⊢
    exact ⟨h.1, ih⟩
theorem TextOk.join {p : UInt8 → Bool} {a b : List UInt8} (hb : p 32 = true) (x : TextOk p a) (y : TextOk p b) : TextOk p (a ++ 32 :: b) := by
  refine ⟨by simp, ?_, ?_, ?_, ?_⟩
  · simp only [List.all_append, List.all_cons, x.all, y.all, hb, Bool.and_self]
  · have h : noDbl (32 :: b) = true := by
      have := noDbl_append (a := [32]) (b := b) rfl y.dbl (.inr y.hd)
      simpa using this
    exact noDbl_append x.dbl h (.inl x.lst)
  · have := x.ne
    cases a with
    | nil => exact (this rfl).elim
    | cons c a => simpa using x.hd
  · rw [List.getLast?_append]
    have := y.lst
    cases b with
    | nil => exact (y.ne rfl).elim
    | cons c b =>
      simp only [List.getLast?_cons_cons]
      cases hq : (c :: b).getLast? with
      | none => simp at hq
      | some z => rw [hq] at this; simpa using this
theorem TextOk.pre {p q : UInt8 → Bool} {a b : List UInt8} (hpq : ∀ c, q c = true → p c = true) (ha : a.all p = true) (h1 : noDbl a = true) (h2 : a.head? ≠ some 32) (h0 : a ≠ []) (y : TextOk q b) : TextOk p (a ++ b) := by
  refine ⟨by simp [h0], ?_, noDbl_append h1 y.dbl (.inr y.hd), ?_, ?_⟩
  · have : b.all p = true := by
      have := y.all
      rw [List.all_eq_true] at this ⊢
      exact fun c hc => hpq c (this c hc)
    simp only [List.all_append, ha, this, Bool.and_self]
  · cases a with
    | nil => exact (h0 rfl).elim
    | cons c a => simpa using h2
  · rw [List.getLast?_append]
    have := y.lst
    cases hq : b.getLast? with
    | none => exact (y.ne (List.getLast?_eq_none_iff.1 hq)).elim
    | some z => rw [hq] at this; simpa using this
theorem TextOk.weak {p q : UInt8 → Bool} {b : List UInt8} (hpq : ∀ c, q c = true → p c = true) (y : TextOk q b) : TextOk p b :=
  ⟨y.ne, by have := y.all; rw [List.all_eq_true] at this ⊢; exact fun c hc => hpq c (this c hc), y.dbl, y.hd, y.lst⟩

/-- as a test -/
def textB (p : UInt8 → Bool) (t : List UInt8) : Bool := t != [] && (t.all p && (noDbl t && (t.head? != some 32 && t.getLast? != some 32)))
theorem textB_ok {p : UInt8 → Bool} {t : List UInt8} (h : textB p t = true) : TextOk p t := by
  simp only [textB, Bool.and_eq_true, bne_iff_ne, ne_eq] at h
  exact ⟨h.1, h.2.1, h.2.2.1, h.2.2.2.1, h.2.2.2.2⟩
def NameL : List (List UInt8) := [[65, 78, 78], [66, 79], [68, 82, 46, 32, 88], [65, 78, 78, 45, 77, 65, 82, 73, 69]]
def SetL : List (List UInt8) := [[72, 65, 76, 76], [77, 73, 76, 76], [66, 65, 82, 78, 32, 47, 32, 76, 79, 70, 84]]

theorem names_pc : Pc Tryz.prog 211 [] (· = .fz 1 (NameL.map .str)) := by
  refine pc_intro (ct_intro Tryz.func211 rfl Tryz.ntmps211 hB211 (by simp) fun h ρ w => goF (N := 2) Tryz.ntmps211 300 ?_)
  simp only [go_sem]
  exact aret [0] rfl ⟨rfl, rfl⟩
theorem sets_pc : Pc Tryz.prog 140 [] (· = .fz 1 (SetL.map .str)) := by
  refine pc_intro (ct_intro Tryz.func140 rfl Tryz.ntmps140 hB140 (by simp) fun h ρ w => goF (N := 2) Tryz.ntmps140 300 ?_)
  simp only [go_sem]
  exact aret [0] rfl ⟨rfl, rfl⟩

/-- the bytes of drawn words, of drawn texts -/
def wordC (c : UInt8) : Bool := okB c && (c != 40 && (c != 41 && c != 86))
def textC (c : UInt8) : Bool := okB c && c != 86
theorem wordC_text (c : UInt8) (h : wordC c = true) : textC c = true := by
  simp only [wordC, textC, Bool.and_eq_true] at h ⊢
  exact ⟨h.1, h.2.2.2⟩
theorem textC_ok (c : UInt8) (h : textC c = true) : okB c = true := by
  simp only [textC, Bool.and_eq_true] at h
  exact h.1

def WordL : List (List UInt8) := [[114, 97, 105, 110], [84, 119, 111], [103, 117, 110, 115], [65, 78, 78], [66, 111], [97], [116, 104, 101], [114, 101, 100], [99, 97, 114, 46], [115, 111, 108, 100, 105, 101, 114, 115], [49, 50],
  [100, 111, 110, 39, 116], [45, 45], [97, 98, 99, 100, 101, 102, 103, 104, 105, 106, 107, 108, 109, 110, 111, 112, 113, 114, 115, 116, 117, 118, 119, 120, 121, 122, 97, 98, 99, 100, 101, 102, 103, 104, 105, 106, 107, 108, 109, 110, 111, 112, 113, 114, 115, 116, 117, 118, 119, 120, 121, 122], [99, 97, 114]]
theorem word_ok : (WordL.all fun x => textB wordC x && decide (x.length ≤ 52)) = true := by decide +kernel
theorem word_of {x : List UInt8} (h : x ∈ WordL) : TextOk wordC x ∧ x.length ≤ 52 := by
  have := List.all_eq_true.1 word_ok x h
  simp only [Bool.and_eq_true, decide_eq_true_eq] at this
  exact ⟨textB_ok this.1, this.2⟩

end Go.Proofs.YtkfpiadgjbhcpaaGreatDoor
