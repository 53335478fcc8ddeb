/- A call that makes new blocks, over every table; a call that only reads, at memory of one's own. Own work of this seat. -/
import Derived.Test.YtkfpiadgjbhcpaaGreatDoorE24
import Derived.Test.YtkfpiadgjbhcpaaGreatDoorE21
import Derived.Test.YtkfpiadgjbhcpaaGreatDoorE23
import Derived.Test.YtkfpiadgjbhcpaaGreatDoorE22
import Derived.Test.YtkfpiadgjbhcpaaGreatDoorE19
import Derived.Test.YtkfpiadgjbhcpaaGreatDoorE14
set_option linter.unusedSimpArgs false
set_option linter.unusedVariables false
set_option linter.unusedSectionVars false
namespace Go.Av
open Go Go.RowKit
variable [Tr]

/-! ### numbers of blocks, moved on -/
section
variable {h : Mem} {ρ1 ρ2 : Own} {s1 s2 : List Blk} {n : Nat}
end

/-! ### memory of one's own, read as if it were frozen -/
/-- all that lies in a world -/
def allOf (w : World) : Mem := fun b o => match w.cell? ⟨b, o, none⟩ with
  | some v => if v.oneCell' = true then some v else none
  | none => none
theorem allOf_mem {w : World} : ∀ b o v, allOf w b o = some v → w.cell? ⟨b, o, none⟩ = some v ∧ v.oneCell' = true := fun b o v e => by
  unfold allOf at e
  cases hc : w.cell? ⟨b, o, none⟩ with
  | none => rw [hc] at e; cases e
  | some u =>
    rw [hc] at e
    simp only at e
    split at e
    · cases e; exact ⟨rfl, by assumption⟩
    · cases e
theorem allOf_le {h : Mem} {w : World} (hm : ∀ b o v, h b o = some v → w.cell? ⟨b, o, none⟩ = some v ∧ v.oneCell' = true) : ∀ b o v, h b o = some v → allOf w b o = some v := fun b o v e => by
  obtain ⟨h1, h2⟩ := hm b o v e
  unfold allOf
  rw [h1]
  simp [h2]
/-- a value of one's own, told as frozen (n: how deep) -/
def bor : Nat → List Blk → AV → AV
  | 0, _, a => match a with
    | .sl _ _ _ _ => .any
    | .ptr _ _ _ _ => .any
    | .mp _ => .any
    | .agg _ => .any
    | .tup _ => .any
    | .fn _ _ => .any
    | a => a
  | n + 1, s, a => match a with
    | .sl id off len cap => match s.getD id .dead with
      | .arr e l => bif decide (off + cap = l.length) && decide (len ≤ cap) then .fz e (((l.drop off).take len).map fun x => match x with
        | .agg r => .agg (r.map (bor n s))
        | x => bor n s x) else .any
      | _ => .any
    | .ptr _ _ _ _ => .any
    | .mp _ => .any
    | .agg _ => .any
    | .tup _ => .any
    | .fn _ _ => .any
    | a => a
def borC (n : Nat) (s : List Blk) : AV → AV
  | .agg r => .agg (r.map (bor n s))
  | x => bor n s x
theorem bor_sl (n : Nat) (s : List Blk) (id off len cap : Nat) : bor (n + 1) s (.sl id off len cap) = match s.getD id .dead with
      | .arr e l => bif decide (off + cap = l.length) && decide (len ≤ cap) then .fz e (((l.drop off).take len).map (borC n s)) else .any
      | _ => .any := rfl
theorem bor_cells (n : Nat) (s : List Blk) (x : AV) : cellsOf (borC n s x) = (cellsOf x).map (bor n s) := by
  have key : ∀ a, cellsOf (bor n s a) = [bor n s a] := fun a => by
    cases n with
    | zero => cases a <;> rfl
    | succ n =>
      cases a with
      | sl id off len cap =>
        rw [bor_sl]
        split
        · cases decide (off + cap = _) && decide (len ≤ cap) <;> rfl
        · rfl
      | _ => rfl
  cases x with
  | agg r => rfl
  | _ => exact key _
theorem bor_flat (n : Nat) (s : List Blk) : ∀ l, flat (l.map (borC n s)) = (flat l).map (bor n s)
  | [] => rfl
  | x :: r => by simp only [List.map_cons, flat, bor_cells, bor_flat n s r, List.map_append]
section
variable {h : Mem} {ρ : Own} {s : List Blk} {w : World}
theorem bor_frz {v : Value} {a : AV} (m : Mine h ρ s w) (r : RV h (Lf ρ s) false v a) (hf : frozen a = true) : RV (allOf w) Lf0 true v a :=
  (frz_one r hf).thaw (allOf_le m.mem)
theorem bor_list {n : Nat} (hn : ∀ {v : Value} {a : AV}, RV h (Lf ρ s) false v a → RV (allOf w) Lf0 true v (bor n s a)) : ∀ {l : List AV} {vs : List Value}, RL h (Lf ρ s) false vs l → RL (allOf w) Lf0 true vs (l.map (bor n s))
  | [], _, r => by cases r; exact .nil
  | a :: l, _, r => by cases r with | cons r1 r2 => exact .cons (hn r1) (bor_list hn r2)
theorem bor_ok (m : Mine h ρ s w) : ∀ (n : Nat) {v : Value} {a : AV}, RV h (Lf ρ s) false v a → RV (allOf w) Lf0 true v (bor n s a)
  | 0, v, a, r => by
    cases a with
    | sl id o l c => exact .any _
    | ptr id m i o => exact .any _
    | mp id => exact .any _
    | agg r => exact .any _
    | tup r => exact .any _
    | fn f r => exact .any _
    | _ => exact bor_frz m r rfl
  | n + 1, v, a, r => by
    cases a with
    | sl id off len cap =>
      rw [bor_sl]
      have hl := (inv_sl r).2
      cases hq : s[id]? with
      | none => simp only [LfC, hq] at hl
      | some b =>
        have hgd : s.getD id .dead = b := by rw [List.getD_eq_getElem?_getD, hq]; rfl
        rw [hgd]
        cases b with
        | arr e l =>
          simp only
          cases hd : decide (off + cap = l.length) && decide (len ≤ cap) with
          | false => exact .any _
          | true =>
            simp only [Bool.and_eq_true, decide_eq_true_eq] at hd
            obtain ⟨hc, hlc⟩ := hd
            simp only [LfC, hq] at hl
            simp only [cond_true]
            rcases hl.2 hc with ⟨rfl, rfl, a, rfl⟩ | ⟨g, tot, h1, rfl, _⟩
            · simp only [List.take_zero, List.map_nil]
              cases a with
              | none => simpa [at0] using RV.fznil e
              | some a => simpa [at0] using RV.fz (h := allOf w) (Lf := Lf0) (fl := true) a.1 a.2 0 e [] [] .nil (by simp) (by simp) (Nat.le_refl _)
            · rcases m.own id _ hq with ⟨_, hn⟩ | ⟨g', tot', cur, t, h3, h4, h5, h6, h7, h8, h9, h10, h11⟩
              · rw [hn] at h1; cases h1
              · rw [h3] at h1
                simp only [Option.some.injEq, Prod.mk.injEq] at h1
                obtain ⟨rfl, rfl⟩ := h1
                have hfl := flat_length h9
                have hlen : (((l.drop off).take len).map (borC n s)).length = len := by simp; omega
                have hr : RL (allOf w) Lf0 true (((cur.toList.take (l.length * e)).drop (off * e)).take (len * e)) (flat (((l.drop off).take len).map (borC n s))) := by
                  rw [bor_flat, ← flat_take (l := l.drop off) (esz := e) (fun x hx => h9 x (List.mem_of_mem_drop hx)) len, ← flat_drop h9 off, List.map_take, List.map_drop]
                  exact ((bor_list (fun r => bor_ok m n r) h11).drop _).take _
                have := RV.fz (h := allOf w) (Lf := Lf0) (fl := true) g' (off * e) (tot' - off) e (((l.drop off).take len).map (borC n s)) _ hr (fun x hx => by
                  obtain ⟨y, hy, rfl⟩ := List.mem_map.1 hx
                  rw [bor_cells, List.length_map]
                  exact h9 y (List.mem_of_mem_drop (List.mem_of_mem_take hy))) (fun k v hk => by
                  rw [List.getElem?_take] at hk
                  split at hk
                  · rw [List.getElem?_drop, List.getElem?_take] at hk
                    split at hk
                    · have h12 := h10 v (List.mem_of_getElem? hk)
                      unfold allOf
                      rw [h4.cell, ← Array.getElem?_toList, hk]
                      simp [h12]
                    · simp at hk
                  · simp at hk) (by rw [hlen]; omega)
                rwa [hlen] at this
        | _ => exact .any _
    | ptr id m i o => exact .any _
    | mp id => exact .any _
    | agg r => exact .any _
    | tup r => exact .any _
    | fn f r => exact .any _
    | _ => exact bor_frz m r rfl
theorem bor_val (m : Mine h ρ s w) (n : Nat) {v : Value} {a : AV} (r : RV h (Lf ρ s) false v a) : RV (allOf w) Lf0 true v (borC n s a) := by
  cases a with
  | agg l =>
    obtain ⟨vs, rfl, rl⟩ := inv_agg r
    exact .agg vs _ (bor_list (fun r => bor_ok m n r) rl)
  | _ => exact bor_ok m n r
theorem bor_args (m : Mine h ρ s w) (n : Nat) : ∀ {l : List AV} {vs : List Value}, RL h (Lf ρ s) false vs l → RL (allOf w) Lf0 true vs (l.map (borC n s))
  | [], _, r => by cases r; exact .nil
  | a :: l, _, r => by cases r with | cons r1 r2 => exact .cons (bor_val m n r1) (bor_args m n r2)
end
/-- what leads to no memory -/
def flatV : AV → Bool
  | .int _ _ => true
  | .bool _ => true
  | .str _ => true
  | _ => false
/-- a function that only reads what is frozen, called with memory of one's own: this stays -/
theorem Ct.borrow {P : Program} {f : FuncId} {args : List AV} {post : AV → Prop} (n : Nat) (s : List Blk) (hc : Pc P f (args.map (borC n s)) post) (hp : ∀ r, post r → flatV r = true) : Ct P f args s (fun r s' => post r ∧ s' = s) := by
  refine ⟨hc.1, fun h ρ w vs m r => ?_⟩
  refine (hc.2 (allOf w) w vs allOf_mem (bor_args m n r)).mono ?_
  rintro en w' ⟨v, r, h', rfl, hpo, hm', _, _, hs, rv⟩
  refine ⟨v, r, s, h, ρ, rfl, ⟨hpo, rfl⟩, m.same hs, Later.same hs, ?_⟩
  have := hp r hpo
  cases rv with
  | int k n => exact .int k n
  | bool b => exact .bool b
  | str s => exact .str s
  | _ => cases this
theorem CtH.borrow {P : Program} {g : Std} {f : FuncId} {args : List AV} {post : AV → Prop} (n : Nat) (s : List Blk) (hc : PcH P g f (args.map (borC n s)) post) (hp : ∀ r, post r → flatV r = true) : CtH P g f args s (fun r s' => post r ∧ s' = s) := by
  refine ⟨hc.1, fun h ρ w vs hg m r => ?_⟩
  refine (hc.2 (allOf w) w vs (fun k o e => (hg k o e).1) allOf_mem (bor_args m n r)).mono ?_
  rintro en w' ⟨v, r, h', rfl, hpo, hm', _, _, hs, rv⟩
  refine ⟨v, r, s, h, ρ, rfl, ⟨hpo, rfl⟩, m.same hs, Later.same hs, ?_⟩
  have := hp r hpo
  cases rv with
  | int k n => exact .int k n
  | bool b => exact .bool b
  | str s => exact .str s
  | _ => cases this
end Go.Av
namespace Go.Av
open Go Go.RowKit
variable [Tr]

/-- what a value of one's own is, told as frozen: pointers too -/
def borP (n : Nat) (s : List Blk) : AV → AV
  | .ptr id m i off => match s.getD id .dead with
    | .arr e l => bif decide (m = l.length) && decide (i < l.length) then .pin e (l.map (borC n s)) i off else .any
    | _ => .any
  | x => borC n s x
/-- and functions over such values -/
def borF (n : Nat) (s : List Blk) : AV → AV
  | .fn f r => .fn f (r.map (borP n s))
  | x => borP n s x
section
variable {h : Mem} {ρ : Own} {s : List Blk} {w : World}
theorem borP_ok (m : Mine h ρ s w) (n : Nat) {v : Value} {a : AV} (r : RV h (Lf ρ s) false v a) : RV (allOf w) Lf0 true v (borP n s a) := by
  cases a with
  | ptr id k i off =>
    have hl := (inv_ptr r).2
    simp only [borP]
    cases hq : s[id]? with
    | none =>
      have hgd : s.getD id .dead = .dead := by rw [List.getD_eq_getElem?_getD, hq]; rfl
      rw [hgd]
      exact .any _
    | some b =>
      have hgd : s.getD id .dead = b := by rw [List.getD_eq_getElem?_getD, hq]; rfl
      rw [hgd]
      cases b with
      | arr e l =>
        simp only
        cases hd : decide (k = l.length) && decide (i < l.length) with
        | false => exact .any _
        | true =>
          simp only [Bool.and_eq_true, decide_eq_true_eq] at hd
          obtain ⟨hd1, hd⟩ := hd
          simp only [LfC, hq] at hl
          obtain ⟨_, g, tot, h1, rfl⟩ := hl.2 hd1
          simp only [cond_true]
          rcases m.own id _ hq with ⟨_, hn⟩ | ⟨g', tot', cur, t, h3, h4, h5, h6, h7, h8, h9, h10, h11⟩
          · rw [hn] at h1; cases h1
          · rw [h3] at h1
            simp only [Option.some.injEq, Prod.mk.injEq] at h1
            obtain ⟨rfl, rfl⟩ := h1
            have hfl := flat_length h9
            have hr : RL (allOf w) Lf0 true (cur.toList.take (l.length * e)) (flat (l.map (borC n s))) := by
              rw [bor_flat]
              exact bor_list (fun r => bor_ok m n r) h11
            have := RV.pin (h := allOf w) (Lf := Lf0) (fl := true) g' 0 e (l.map (borC n s)) _ i off hr (fun x hx => by
              obtain ⟨y, hy, rfl⟩ := List.mem_map.1 hx
              rw [bor_cells, List.length_map]
              exact h9 y hy) (fun k v hk => by
              rw [List.getElem?_take] at hk
              split at hk
              · have h12 := h10 v (List.mem_of_getElem? hk)
                unfold allOf
                rw [h4.cell, ← Array.getElem?_toList, Nat.zero_add, hk]
                simp [h12]
              · simp at hk) (by rw [List.length_map]; exact hd)
            rwa [Nat.zero_add] at this
      | _ => exact .any _
  | _ => exact bor_val m n r
theorem borP_list (m : Mine h ρ s w) (n : Nat) : ∀ {l : List AV} {vs : List Value}, RL h (Lf ρ s) false vs l → RL (allOf w) Lf0 true vs (l.map (borP n s))
  | [], _, r => by cases r; exact .nil
  | a :: l, _, r => by cases r with | cons r1 r2 => exact .cons (borP_ok m n r1) (borP_list m n r2)
theorem borF_ok (m : Mine h ρ s w) (n : Nat) {v : Value} {a : AV} (r : RV h (Lf ρ s) false v a) : RV (allOf w) Lf0 true v (borF n s a) := by
  cases a with
  | fn f l =>
    obtain ⟨vs, rfl, rl⟩ := inv_fn r
    exact .fn f vs _ (borP_list m n rl)
  | _ => exact borP_ok m n r
theorem borF_args (m : Mine h ρ s w) (n : Nat) : ∀ {l : List AV} {vs : List Value}, RL h (Lf ρ s) false vs l → RL (allOf w) Lf0 true vs (l.map (borF n s))
  | [], _, r => by cases r; exact .nil
  | a :: l, _, r => by cases r with | cons r1 r2 => exact .cons (borF_ok m n r1) (borF_args m n r2)
end
/-- a function that only reads what is frozen, called with memory of one's own, pointers and functions over it: this stays -/
theorem Ct.borrowF {P : Program} {f : FuncId} {args : List AV} {post : AV → Prop} (n : Nat) (s : List Blk) (hc : Pc P f (args.map (borF n s)) post) (hp : ∀ r, post r → flatV r = true) : Ct P f args s (fun r s' => post r ∧ s' = s) := by
  refine ⟨hc.1, fun h ρ w vs m r => ?_⟩
  refine (hc.2 (allOf w) w vs allOf_mem (borF_args m n r)).mono ?_
  rintro en w' ⟨v, r, h', rfl, hpo, hm', _, _, hs, rv⟩
  refine ⟨v, r, s, h, ρ, rfl, ⟨hpo, rfl⟩, m.same hs, Later.same hs, ?_⟩
  have := hp r hpo
  cases rv with
  | int k n => exact .int k n
  | bool b => exact .bool b
  | str s => exact .str s
  | _ => cases this
theorem CtH.borrowF {P : Program} {g : Std} {f : FuncId} {args : List AV} {post : AV → Prop} (n : Nat) (s : List Blk) (hc : PcH P g f (args.map (borF n s)) post) (hp : ∀ r, post r → flatV r = true) : CtH P g f args s (fun r s' => post r ∧ s' = s) := by
  refine ⟨hc.1, fun h ρ w vs hg m r => ?_⟩
  refine (hc.2 (allOf w) w vs (fun k o e => (hg k o e).1) allOf_mem (borF_args m n r)).mono ?_
  rintro en w' ⟨v, r, h', rfl, hpo, hm', _, _, hs, rv⟩
  refine ⟨v, r, s, h, ρ, rfl, ⟨hpo, rfl⟩, m.same hs, Later.same hs, ?_⟩
  have := hp r hpo
  cases rv with
  | int k n => exact .int k n
  | bool b => exact .bool b
  | str s => exact .str s
  | _ => cases this
end Go.Av
set_option maxRecDepth 100000
namespace Go.Proofs.YtkfpiadgjbhcpaaGreatDoor
open Go Go.Av Go.RowKit

structure Rl where
  name : List UInt8
  rate : Int
  start : Int
  long : Int
  drift : Int
structure Wn where
  frm : Int
  to' : Int
structure Spt where
  scene : Int
  para : Int
  at' : Int
def rlA (x : Rl) : AV := .agg [.str x.name, .int .i64 x.rate, .int .i64 x.start, .int .i64 x.long, .int .i64 x.drift]
def cvA (x : Cv) : AV := .agg [.int .i64 x.para, .int .i64 x.inn, .int .i64 x.out, .bool x.on]
def tkA (x : Tk) : AV := .agg [.str x.scene, .str x.setup, .int .i64 x.number, .str x.roll, .str x.sound, .int .i64 x.inn, .int .i64 x.out, .bool x.good, .fz 4 (x.covers.map cvA)]
def wnA (x : Wn) : AV := .agg [.int .i64 x.frm, .int .i64 x.to']
theorem rlA_get (l : List Rl) (i : Nat) (h : i < l.length) : List.getD (List.map rlA l) i .any = .agg [.str l[i].name, .int .i64 l[i].rate, .int .i64 l[i].start, .int .i64 l[i].long, .int .i64 l[i].drift] := by simp [List.getD, h, rlA]
theorem cvA_get (l : List Cv) (i : Nat) (h : i < l.length) : List.getD (List.map cvA l) i .any = .agg [.int .i64 l[i].para, .int .i64 l[i].inn, .int .i64 l[i].out, .bool l[i].on] := by simp [List.getD, h, cvA]
theorem tkA_get (l : List Tk) (i : Nat) (h : i < l.length) : List.getD (List.map tkA l) i .any = .agg [.str l[i].scene, .str l[i].setup, .int .i64 l[i].number, .str l[i].roll, .str l[i].sound, .int .i64 l[i].inn, .int .i64 l[i].out, .bool l[i].good, .fz 4 (l[i].covers.map cvA)] := by simp [List.getD, h, tkA]
theorem wnA_get (l : List Wn) (i : Nat) (h : i < l.length) : List.getD (List.map wnA l) i .any = .agg [.int .i64 l[i].frm, .int .i64 l[i].to'] := by simp [List.getD, h, wnA]
theorem scA_get (l : List Sc) (i : Nat) (h : i < l.length) : List.getD (List.map scA l) i .any = .agg [.str l[i].no, .int .i64 l[i].place, .str l[i].set, .int .i64 l[i].time, .fz 2 (l[i].paras.map paA)] := by simp [List.getD, h, scA]
theorem paA_get (l : List Pa) (i : Nat) (h : i < l.length) : List.getD (List.map paA l) i .any = .agg [.int .i64 l[i].kind, .str l[i].text] := by simp [List.getD, h, paA]
theorem take_map {α β : Type} (f : α → β) (l : List α) : (l.map f).take l.length = l.map f := by rw [← List.length_map f, List.take_length]

theorem nr1_caps {caps : List AV} (hc : caps.all frozen0 = true) : caps.all nr1 = true := by
  rw [List.all_eq_true] at hc ⊢
  intro x hx
  have := hc x hx
  cases x <;> first | exact frozen_of0 this | (simp [frozen0] at this)
theorem nr1_cons {a : AV} {caps : List AV} (ha : nr1 a = true) (hc : caps.all frozen0 = true) : (a :: caps).all nr1 = true := by
  simp only [List.all_cons, ha, nr1_caps hc, Bool.and_self]
def idxP {α : Type} (p : α → Bool) (l : List α) : Int := match l.findIdx? p with
  | some i => i
  | none => -1
theorem idxP_none {α : Type} {p : α → Bool} {l : List α} (h : ∀ j, (hj : j < l.length) → p l[j] = false) : idxP p l = -1 := by
  have : l.findIdx? p = none := by
    rw [List.findIdx?_eq_none_iff]
    intro x hx
    obtain ⟨j, hj, rfl⟩ := List.getElem_of_mem hx
    exact h j hj
  simp [idxP, this]
theorem idxP_some {α : Type} {p : α → Bool} {l : List α} {i : Nat} (hi : i < l.length) (hp : p l[i] = true) (h : ∀ j, (hj : j < i) → p (l[j]'(by omega)) = false) : idxP p l = i := by
  have : l.findIdx? p = some i := by
    rw [List.findIdx?_eq_some_iff_getElem]
    exact ⟨hi, hp, fun j hj => by simpa using h j hj⟩
  simp [idxP, this]
theorem idxP_any {α : Type} {p : α → Bool} {l : List α} : decide (idxP p l ≥ 0) = l.any p := by
  unfold idxP
  cases hq : l.findIdx? p with
  | none =>
    rw [List.findIdx?_eq_none_iff] at hq
    have : l.any p = false := by rw [List.any_eq_false]; intro x hx; simp [hq x hx]
    simp [this]
  | some i =>
    rw [List.findIdx?_eq_some_iff_getElem] at hq
    obtain ⟨hi, hp, _⟩ := hq
    have : l.any p = true := List.any_eq_true.2 ⟨_, List.getElem_mem hi, hp⟩
    simp [this]

theorem idxSc_pc (f : FuncId) (caps : List AV) (hc : caps.all frozen0 = true) (p : Sc → Bool) (l : List Sc) (hl : l.length < 100000000) (hf : ∀ x ∈ l, Pc Tryz.prog f (scA x :: caps) (· = .bool (p x))) :
    Pc Tryz.prog 136 [.fz 5 (l.map scA), .fn (.func f) caps] (· = .int .i64 (idxP p l)) := by
  refine pc_intro (ct_intro Tryz.func136 rfl Tryz.ntmps136 hB136 (by simp) fun h ρ w => goB (N := 19) Tryz.ntmps136 300 ?_)
  simp only [go_sem]
  refine aloop (ι := Nat) (fun i => l.length - i) (fun i => [(8, .int .i64 i), (7, .int .i64 l.length), (1, .fn (.func f) caps), (0, .fz 5 (l.map scA))]) (fun _ => []) (fun i => i ≤ l.length ∧ ∀ j, (hj : j < l.length) → j < i → p l[j] = false) 0 ⟨by simp, fun j _ h => absurd h (by omega)⟩ ?_ ?_
  · refine Shift.weak ?_
    simp only [wk, go_sem, List.length_map]
  · rintro i ⟨g1, g2⟩ J hJ
    by_cases gi : i < l.length
    · have di : decide ((i : Int) < (l.length : Int)) = true := by simp; omega
      have hfx := hf _ (List.getElem_mem gi)
      simp only [scA] at hfx
      refine goB (N := 19) Tryz.ntmps136 300 ?_
      simp only [go_sem, di, scA_get l i gi, List.length_map]
      repeat refine And.intro (by first | omega | rfl | (simp; omega)) ?_
      cases hp : p l[i] with
      | true =>
        rw [hp] at hfx
        refine pcall1 hfx (nr1_cons rfl hc) (N := 19) Tryz.ntmps136 rfl (goB (N := 19) Tryz.ntmps136 300 ?_)
        simp only [go_sem]
        exact aret [4] rfl ⟨congrArg _ (idxP_some gi hp fun j hj => g2 j (by omega) hj).symm, rfl⟩
      | false =>
        rw [hp] at hfx
        refine pcall1 hfx (nr1_cons rfl hc) (N := 19) Tryz.ntmps136 rfl (goB (N := 19) Tryz.ntmps136 300 ?_)
        simp only [go_sem]
        repeat refine And.intro (by first | omega | rfl) ?_
        rw [show (i : Int) + 1 = ((i + 1 : Nat) : Int) by omega]
        refine ainv (hJ (i + 1) ⟨by omega, fun j hj h => ?_⟩ (by omega)) (Shift.weak ?_)
        · rcases Nat.lt_or_ge j i with h2 | h2
          · exact g2 j hj h2
          · have : j = i := by omega
            subst this; exact hp
        · simp only [wk, go_sem]
    · have di : decide ((i : Int) < (l.length : Int)) = false := by simp; omega
      refine goB (N := 19) Tryz.ntmps136 300 ?_
      simp only [go_sem, di]
      exact aret [4] rfl ⟨congrArg _ (idxP_none fun j hj => g2 j hj (by omega)).symm, rfl⟩
theorem anySc_pc (f : FuncId) (caps : List AV) (hc : caps.all frozen0 = true) (p : Sc → Bool) (l : List Sc) (hl : l.length < 100000000) (hf : ∀ x ∈ l, Pc Tryz.prog f (scA x :: caps) (· = .bool (p x))) :
    Pc Tryz.prog 80 [.fz 5 (l.map scA), .fn (.func f) caps] (· = .bool (l.any p)) := by
  refine pc_intro (ct_intro Tryz.func80 rfl Tryz.ntmps80 hB80 (by simp) fun h ρ w => goB (N := 9) Tryz.ntmps80 300 ?_)
  simp only [go_sem]
  refine pcall1 (idxSc_pc f caps hc p l hl hf) (by simp only [List.all_cons, List.all_nil, nr1, Av.frozen, hc, Bool.and_self]) (N := 9) Tryz.ntmps80 rfl (goB (N := 9) Tryz.ntmps80 300 ?_)
  simp only [go_sem]
  refine aret [4] rfl ⟨?_, rfl⟩
  simp only [resV, Av.get, Av.put, cond_true, beq_self_eq_true]
  rw [← idxP_any]

theorem idxRl_pc (f : FuncId) (caps : List AV) (hc : caps.all frozen0 = true) (p : Rl → Bool) (l : List Rl) (hl : l.length < 100000000) (hf : ∀ x ∈ l, Pc Tryz.prog f (rlA x :: caps) (· = .bool (p x))) :
    Pc Tryz.prog 110 [.fz 5 (l.map rlA), .fn (.func f) caps] (· = .int .i64 (idxP p l)) := by
  refine pc_intro (ct_intro Tryz.func110 rfl Tryz.ntmps110 hB110 (by simp) fun h ρ w => goB (N := 19) Tryz.ntmps110 300 ?_)
  simp only [go_sem]
  refine aloop (ι := Nat) (fun i => l.length - i) (fun i => [(8, .int .i64 i), (7, .int .i64 l.length), (1, .fn (.func f) caps), (0, .fz 5 (l.map rlA))]) (fun _ => []) (fun i => i ≤ l.length ∧ ∀ j, (hj : j < l.length) → j < i → p l[j] = false) 0 ⟨by simp, fun j _ h => absurd h (by omega)⟩ ?_ ?_
  · refine Shift.weak ?_
    simp only [wk, go_sem, List.length_map]
  · rintro i ⟨g1, g2⟩ J hJ
    by_cases gi : i < l.length
    · have di : decide ((i : Int) < (l.length : Int)) = true := by simp; omega
      have hfx := hf _ (List.getElem_mem gi)
      simp only [rlA] at hfx
      refine goB (N := 19) Tryz.ntmps110 300 ?_
      simp only [go_sem, di, rlA_get l i gi, List.length_map]
      repeat refine And.intro (by first | omega | rfl | (simp; omega)) ?_
      cases hp : p l[i] with
      | true =>
        rw [hp] at hfx
        refine pcall1 hfx (nr1_cons rfl hc) (N := 19) Tryz.ntmps110 rfl (goB (N := 19) Tryz.ntmps110 300 ?_)
        simp only [go_sem]
        exact aret [4] rfl ⟨congrArg _ (idxP_some gi hp fun j hj => g2 j (by omega) hj).symm, rfl⟩
      | false =>
        rw [hp] at hfx
        refine pcall1 hfx (nr1_cons rfl hc) (N := 19) Tryz.ntmps110 rfl (goB (N := 19) Tryz.ntmps110 300 ?_)
        simp only [go_sem]
        repeat refine And.intro (by first | omega | rfl) ?_
        rw [show (i : Int) + 1 = ((i + 1 : Nat) : Int) by omega]
        refine ainv (hJ (i + 1) ⟨by omega, fun j hj h => ?_⟩ (by omega)) (Shift.weak ?_)
        · rcases Nat.lt_or_ge j i with h2 | h2
          · exact g2 j hj h2
          · have : j = i := by omega
            subst this; exact hp
        · simp only [wk, go_sem]
    · have di : decide ((i : Int) < (l.length : Int)) = false := by simp; omega
      refine goB (N := 19) Tryz.ntmps110 300 ?_
      simp only [go_sem, di]
      exact aret [4] rfl ⟨congrArg _ (idxP_none fun j hj => g2 j hj (by omega)).symm, rfl⟩
theorem anyRl_pc (f : FuncId) (caps : List AV) (hc : caps.all frozen0 = true) (p : Rl → Bool) (l : List Rl) (hl : l.length < 100000000) (hf : ∀ x ∈ l, Pc Tryz.prog f (rlA x :: caps) (· = .bool (p x))) :
    Pc Tryz.prog 153 [.fz 5 (l.map rlA), .fn (.func f) caps] (· = .bool (l.any p)) := by
  refine pc_intro (ct_intro Tryz.func153 rfl Tryz.ntmps153 hB153 (by simp) fun h ρ w => goB (N := 9) Tryz.ntmps153 300 ?_)
  simp only [go_sem]
  refine pcall1 (idxRl_pc f caps hc p l hl hf) (by simp only [List.all_cons, List.all_nil, nr1, Av.frozen, hc, Bool.and_self]) (N := 9) Tryz.ntmps153 rfl (goB (N := 9) Tryz.ntmps153 300 ?_)
  simp only [go_sem]
  refine aret [4] rfl ⟨?_, rfl⟩
  simp only [resV, Av.get, Av.put, cond_true, beq_self_eq_true]
  rw [← idxP_any]

theorem idxWn_pc (f : FuncId) (caps : List AV) (hc : caps.all frozen0 = true) (p : Wn → Bool) (l : List Wn) (hl : l.length < 100000000) (hf : ∀ x ∈ l, Pc Tryz.prog f (wnA x :: caps) (· = .bool (p x))) :
    Pc Tryz.prog 163 [.fz 2 (l.map wnA), .fn (.func f) caps] (· = .int .i64 (idxP p l)) := by
  refine pc_intro (ct_intro Tryz.func163 rfl Tryz.ntmps163 hB163 (by simp) fun h ρ w => goB (N := 19) Tryz.ntmps163 300 ?_)
  simp only [go_sem]
  refine aloop (ι := Nat) (fun i => l.length - i) (fun i => [(8, .int .i64 i), (7, .int .i64 l.length), (1, .fn (.func f) caps), (0, .fz 2 (l.map wnA))]) (fun _ => []) (fun i => i ≤ l.length ∧ ∀ j, (hj : j < l.length) → j < i → p l[j] = false) 0 ⟨by simp, fun j _ h => absurd h (by omega)⟩ ?_ ?_
  · refine Shift.weak ?_
    simp only [wk, go_sem, List.length_map]
  · rintro i ⟨g1, g2⟩ J hJ
    by_cases gi : i < l.length
    · have di : decide ((i : Int) < (l.length : Int)) = true := by simp; omega
      have hfx := hf _ (List.getElem_mem gi)
      simp only [wnA] at hfx
      refine goB (N := 19) Tryz.ntmps163 300 ?_
      simp only [go_sem, di, wnA_get l i gi, List.length_map]
      repeat refine And.intro (by first | omega | rfl | (simp; omega)) ?_
      cases hp : p l[i] with
      | true =>
        rw [hp] at hfx
        refine pcall1 hfx (nr1_cons rfl hc) (N := 19) Tryz.ntmps163 rfl (goB (N := 19) Tryz.ntmps163 300 ?_)
        simp only [go_sem]
        exact aret [4] rfl ⟨congrArg _ (idxP_some gi hp fun j hj => g2 j (by omega) hj).symm, rfl⟩
      | false =>
        rw [hp] at hfx
        refine pcall1 hfx (nr1_cons rfl hc) (N := 19) Tryz.ntmps163 rfl (goB (N := 19) Tryz.ntmps163 300 ?_)
        simp only [go_sem]
        repeat refine And.intro (by first | omega | rfl) ?_
        rw [show (i : Int) + 1 = ((i + 1 : Nat) : Int) by omega]
        refine ainv (hJ (i + 1) ⟨by omega, fun j hj h => ?_⟩ (by omega)) (Shift.weak ?_)
        · rcases Nat.lt_or_ge j i with h2 | h2
          · exact g2 j hj h2
          · have : j = i := by omega
            subst this; exact hp
        · simp only [wk, go_sem]
    · have di : decide ((i : Int) < (l.length : Int)) = false := by simp; omega
      refine goB (N := 19) Tryz.ntmps163 300 ?_
      simp only [go_sem, di]
      exact aret [4] rfl ⟨congrArg _ (idxP_none fun j hj => g2 j hj (by omega)).symm, rfl⟩
theorem anyWn_pc (f : FuncId) (caps : List AV) (hc : caps.all frozen0 = true) (p : Wn → Bool) (l : List Wn) (hl : l.length < 100000000) (hf : ∀ x ∈ l, Pc Tryz.prog f (wnA x :: caps) (· = .bool (p x))) :
    Pc Tryz.prog 96 [.fz 2 (l.map wnA), .fn (.func f) caps] (· = .bool (l.any p)) := by
  refine pc_intro (ct_intro Tryz.func96 rfl Tryz.ntmps96 hB96 (by simp) fun h ρ w => goB (N := 9) Tryz.ntmps96 300 ?_)
  simp only [go_sem]
  refine pcall1 (idxWn_pc f caps hc p l hl hf) (by simp only [List.all_cons, List.all_nil, nr1, Av.frozen, hc, Bool.and_self]) (N := 9) Tryz.ntmps96 rfl (goB (N := 9) Tryz.ntmps96 300 ?_)
  simp only [go_sem]
  refine aret [4] rfl ⟨?_, rfl⟩
  simp only [resV, Av.get, Av.put, cond_true, beq_self_eq_true]
  rw [← idxP_any]

theorem idxTk_pc (f : FuncId) (caps : List AV) (hc : caps.all frozen0 = true) (p : Tk → Bool) (l : List Tk) (hl : l.length < 100000000) (hf : ∀ x ∈ l, Pc Tryz.prog f (tkA x :: caps) (· = .bool (p x))) :
    Pc Tryz.prog 29 [.fz 9 (l.map tkA), .fn (.func f) caps] (· = .int .i64 (idxP p l)) := by
  refine pc_intro (ct_intro Tryz.func29 rfl Tryz.ntmps29 hB29 (by simp) fun h ρ w => goB (N := 19) Tryz.ntmps29 300 ?_)
  simp only [go_sem]
  refine aloop (ι := Nat) (fun i => l.length - i) (fun i => [(8, .int .i64 i), (7, .int .i64 l.length), (1, .fn (.func f) caps), (0, .fz 9 (l.map tkA))]) (fun _ => []) (fun i => i ≤ l.length ∧ ∀ j, (hj : j < l.length) → j < i → p l[j] = false) 0 ⟨by simp, fun j _ h => absurd h (by omega)⟩ ?_ ?_
  · refine Shift.weak ?_
    simp only [wk, go_sem, List.length_map]
  · rintro i ⟨g1, g2⟩ J hJ
    by_cases gi : i < l.length
    · have di : decide ((i : Int) < (l.length : Int)) = true := by simp; omega
      have hfx := hf _ (List.getElem_mem gi)
      simp only [tkA] at hfx
      refine goB (N := 19) Tryz.ntmps29 300 ?_
      simp only [go_sem, di, tkA_get l i gi, List.length_map]
      repeat refine And.intro (by first | omega | rfl | (simp; omega)) ?_
      cases hp : p l[i] with
      | true =>
        rw [hp] at hfx
        refine pcall1 hfx (nr1_cons rfl hc) (N := 19) Tryz.ntmps29 rfl (goB (N := 19) Tryz.ntmps29 300 ?_)
        simp only [go_sem]
        exact aret [4] rfl ⟨congrArg _ (idxP_some gi hp fun j hj => g2 j (by omega) hj).symm, rfl⟩
      | false =>
        rw [hp] at hfx
        refine pcall1 hfx (nr1_cons rfl hc) (N := 19) Tryz.ntmps29 rfl (goB (N := 19) Tryz.ntmps29 300 ?_)
        simp only [go_sem]
        repeat refine And.intro (by first | omega | rfl) ?_
        rw [show (i : Int) + 1 = ((i + 1 : Nat) : Int) by omega]
        refine ainv (hJ (i + 1) ⟨by omega, fun j hj h => ?_⟩ (by omega)) (Shift.weak ?_)
        · rcases Nat.lt_or_ge j i with h2 | h2
          · exact g2 j hj h2
          · have : j = i := by omega
            subst this; exact hp
        · simp only [wk, go_sem]
    · have di : decide ((i : Int) < (l.length : Int)) = false := by simp; omega
      refine goB (N := 19) Tryz.ntmps29 300 ?_
      simp only [go_sem, di]
      exact aret [4] rfl ⟨congrArg _ (idxP_none fun j hj => g2 j hj (by omega)).symm, rfl⟩
theorem anyTk_pc (f : FuncId) (caps : List AV) (hc : caps.all frozen0 = true) (p : Tk → Bool) (l : List Tk) (hl : l.length < 100000000) (hf : ∀ x ∈ l, Pc Tryz.prog f (tkA x :: caps) (· = .bool (p x))) :
    Pc Tryz.prog 159 [.fz 9 (l.map tkA), .fn (.func f) caps] (· = .bool (l.any p)) := by
  refine pc_intro (ct_intro Tryz.func159 rfl Tryz.ntmps159 hB159 (by simp) fun h ρ w => goB (N := 9) Tryz.ntmps159 300 ?_)
  simp only [go_sem]
  refine pcall1 (idxTk_pc f caps hc p l hl hf) (by simp only [List.all_cons, List.all_nil, nr1, Av.frozen, hc, Bool.and_self]) (N := 9) Tryz.ntmps159 rfl (goB (N := 9) Tryz.ntmps159 300 ?_)
  simp only [go_sem]
  refine aret [4] rfl ⟨?_, rfl⟩
  simp only [resV, Av.get, Av.put, cond_true, beq_self_eq_true]
  rw [← idxP_any]


set_option maxRecDepth 100000
set_option linter.unusedSimpArgs false
set_option linter.unusedVariables false


theorem below_pc (x n : Int) (h1 : 1 ≤ n) (h2 : n ≤ 9223372036854775807) :
    Pc Tryz.prog 143 [.int .i64 x, .int .i64 n] (· = .int .i64 (x % n)) := by
  refine pc_intro (ct_intro Tryz.func143 rfl Tryz.ntmps143 hB143 (by simp) fun h ρ w => goW (N := 16) Tryz.ntmps143 200 ?_)
  have hm : x.tmod n = if 0 ≤ x ∨ n ∣ x then x % n else x % n - n.natAbs := by
    rw [Int.tmod_eq_emod]; split <;> simp
  have hlt := Int.emod_lt_of_pos x (show 0 < n by omega)
  have hge := Int.emod_nonneg x (show n ≠ 0 by omega)
  have hna : (n.natAbs : Int) = n := by omega
  rw [hna] at hm
  simp only [go_sem, xint]
  refine ⟨fun _ => by omega, fun _ => ⟨by omega, fun h3 => ?_, fun h3 => ?_⟩⟩
  · refine aret [4] rfl ⟨?_, rfl⟩
    show AV.int .i64 _ = _
    rw [hm] at h3 ⊢
    split at h3
    · omega
    · rw [if_neg (by assumption), show x % n - n + n = x % n by omega]
      exact congrArg _ (IntWalk.i64_in _ ⟨by omega, by omega⟩)
  · refine aret [4] rfl ⟨?_, rfl⟩
    show AV.int .i64 _ = _
    rw [hm] at h3 ⊢
    split at h3
    · rw [if_pos (by assumption)]
    · omega

/-- the stream's fields -/
def str (L : List Int) (at' : Int) : AV := .agg [.fz 1 (L.map (.int .i64)), .int .i64 at']

end Go.Proofs.YtkfpiadgjbhcpaaGreatDoor
