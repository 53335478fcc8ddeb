/- A call that makes new blocks, over every table; a call that only reads, at memory of one's own. Own work of this seat. -/
import Derived.Test.YtkfpiadgjbhcpaaGreatDoorA24
set_option linter.unusedSimpArgs false
set_option linter.unusedVariables false
set_option linter.unusedSectionVars false
namespace Go.Av
open Go Go.RowKit
variable [Tr]

/-! ### numbers of blocks, moved on -/
section
variable {h : Mem} {ρ1 ρ2 : Own} {s1 s2 : List Blk} {n : Nat}
end

/-! ### memory of one's own, read as if it were frozen -/
/-- all that lies in a world -/
def allOf (w : World) : Mem := fun b o => match w.cell? ⟨b, o, none⟩ with
  | some v => if v.oneCell' = true then some v else none
  | none => none
theorem allOf_mem {w : World} : ∀ b o v, allOf w b o = some v → w.cell? ⟨b, o, none⟩ = some v ∧ v.oneCell' = true := fun b o v e => by
  unfold allOf at e
  cases hc : w.cell? ⟨b, o, none⟩ with
  | none => rw [hc] at e; cases e
  | some u =>
    rw [hc] at e
    simp only at e
    split at e
    · cases e; exact ⟨rfl, by assumption⟩
    · cases e
theorem allOf_le {h : Mem} {w : World} (hm : ∀ b o v, h b o = some v → w.cell? ⟨b, o, none⟩ = some v ∧ v.oneCell' = true) : ∀ b o v, h b o = some v → allOf w b o = some v := fun b o v e => by
  obtain ⟨h1, h2⟩ := hm b o v e
  unfold allOf
  rw [h1]
  simp [h2]
/-- a value of one's own, told as frozen (n: how deep) -/
def bor : Nat → List Blk → AV → AV
  | 0, _, a => match a with
    | .sl _ _ _ _ => .any
    | .ptr _ _ _ _ => .any
    | .mp _ => .any
    | .agg _ => .any
    | .tup _ => .any
    | .fn _ _ => .any
    | a => a
  | n + 1, s, a => match a with
    | .sl id off len cap => match s.getD id .dead with
      | .arr e l => bif decide (off + cap = l.length) && decide (len ≤ cap) then .fz e (((l.drop off).take len).map fun x => match x with
        | .agg r => .agg (r.map (bor n s))
        | x => bor n s x) else .any
      | _ => .any
    | .ptr _ _ _ _ => .any
    | .mp _ => .any
    | .agg _ => .any
    | .tup _ => .any
    | .fn _ _ => .any
    | a => a
def borC (n : Nat) (s : List Blk) : AV → AV
  | .agg r => .agg (r.map (bor n s))
  | x => bor n s x
theorem bor_sl (n : Nat) (s : List Blk) (id off len cap : Nat) : bor (n + 1) s (.sl id off len cap) = match s.getD id .dead with
      | .arr e l => bif decide (off + cap = l.length) && decide (len ≤ cap) then .fz e (((l.drop off).take len).map (borC n s)) else .any
      | _ => .any := rfl
theorem bor_cells (n : Nat) (s : List Blk) (x : AV) : cellsOf (borC n s x) = (cellsOf x).map (bor n s) := by
  have key : ∀ a, cellsOf (bor n s a) = [bor n s a] := fun a => by
    cases n with
    | zero => cases a <;> rfl
    | succ n =>
      cases a with
      | sl id off len cap =>
        rw [bor_sl]
        split
        · cases decide (off + cap = _) && decide (len ≤ cap) <;> rfl
        · rfl
      | _ => rfl
  cases x with
  | agg r => rfl
  | _ => exact key _
theorem bor_flat (n : Nat) (s : List Blk) : ∀ l, flat (l.map (borC n s)) = (flat l).map (bor n s)
  | [] => rfl
  | x :: r => by simp only [List.map_cons, flat, bor_cells, bor_flat n s r, List.map_append]
section
variable {h : Mem} {ρ : Own} {s : List Blk} {w : World}
theorem bor_frz {v : Value} {a : AV} (m : Mine h ρ s w) (r : RV h (Lf ρ s) false v a) (hf : frozen a = true) : RV (allOf w) Lf0 true v a :=
  (frz_one r hf).thaw (allOf_le m.mem)
theorem bor_list {n : Nat} (hn : ∀ {v : Value} {a : AV}, RV h (Lf ρ s) false v a → RV (allOf w) Lf0 true v (bor n s a)) : ∀ {l : List AV} {vs : List Value}, RL h (Lf ρ s) false vs l → RL (allOf w) Lf0 true vs (l.map (bor n s))
  | [], _, r => by cases r; exact .nil
  | a :: l, _, r => by cases r with | cons r1 r2 => exact .cons (hn r1) (bor_list hn r2)
theorem bor_ok (m : Mine h ρ s w) : ∀ (n : Nat) {v : Value} {a : AV}, RV h (Lf ρ s) false v a → RV (allOf w) Lf0 true v (bor n s a)
  | 0, v, a, r => by
    cases a with
    | sl id o l c => exact .any _
    | ptr id m i o => exact .any _
    | mp id => exact .any _
    | agg r => exact .any _
    | tup r => exact .any _
    | fn f r => exact .any _
    | _ => exact bor_frz m r rfl
  | n + 1, v, a, r => by
    cases a with
    | sl id off len cap =>
      rw [bor_sl]
      have hl := (inv_sl r).2
      cases hq : s[id]? with
      | none => simp only [LfC, hq] at hl
      | some b =>
        have hgd : s.getD id .dead = b := by rw [List.getD_eq_getElem?_getD, hq]; rfl
        rw [hgd]
        cases b with
        | arr e l =>
          simp only
          cases hd : decide (off + cap = l.length) && decide (len ≤ cap) with
          | false => exact .any _
          | true =>
            simp only [Bool.and_eq_true, decide_eq_true_eq] at hd
            obtain ⟨hc, hlc⟩ := hd
            simp only [LfC, hq] at hl
            simp only [cond_true]
            rcases hl.2 hc with ⟨rfl, rfl, a, rfl⟩ | ⟨g, tot, h1, rfl, _⟩
            · simp only [List.take_zero, List.map_nil]
              cases a with
              | none => simpa [at0] using RV.fznil e
              | some a => simpa [at0] using RV.fz (h := allOf w) (Lf := Lf0) (fl := true) a.1 a.2 0 e [] [] .nil (by simp) (by simp) (Nat.le_refl _)
            · rcases m.own id _ hq with ⟨_, hn⟩ | ⟨g', tot', cur, t, h3, h4, h5, h6, h7, h8, h9, h10, h11⟩
              · rw [hn] at h1; cases h1
              · rw [h3] at h1
                simp only [Option.some.injEq, Prod.mk.injEq] at h1
                obtain ⟨rfl, rfl⟩ := h1
                have hfl := flat_length h9
                have hlen : (((l.drop off).take len).map (borC n s)).length = len := by simp; omega
                have hr : RL (allOf w) Lf0 true (((cur.toList.take (l.length * e)).drop (off * e)).take (len * e)) (flat (((l.drop off).take len).map (borC n s))) := by
                  rw [bor_flat, ← flat_take (l := l.drop off) (esz := e) (fun x hx => h9 x (List.mem_of_mem_drop hx)) len, ← flat_drop h9 off, List.map_take, List.map_drop]
                  exact ((bor_list (fun r => bor_ok m n r) h11).drop _).take _
                have := RV.fz (h := allOf w) (Lf := Lf0) (fl := true) g' (off * e) (tot' - off) e (((l.drop off).take len).map (borC n s)) _ hr (fun x hx => by
                  obtain ⟨y, hy, rfl⟩ := List.mem_map.1 hx
                  rw [bor_cells, List.length_map]
                  exact h9 y (List.mem_of_mem_drop (List.mem_of_mem_take hy))) (fun k v hk => by
                  rw [List.getElem?_take] at hk
                  split at hk
                  · rw [List.getElem?_drop, List.getElem?_take] at hk
                    split at hk
                    · have h12 := h10 v (List.mem_of_getElem? hk)
                      unfold allOf
                      rw [h4.cell, ← Array.getElem?_toList, hk]
                      simp [h12]
                    · simp at hk
                  · simp at hk) (by rw [hlen]; omega)
                rwa [hlen] at this
        | _ => exact .any _
    | ptr id m i o => exact .any _
    | mp id => exact .any _
    | agg r => exact .any _
    | tup r => exact .any _
    | fn f r => exact .any _
    | _ => exact bor_frz m r rfl
theorem bor_val (m : Mine h ρ s w) (n : Nat) {v : Value} {a : AV} (r : RV h (Lf ρ s) false v a) : RV (allOf w) Lf0 true v (borC n s a) := by
  cases a with
  | agg l =>
    obtain ⟨vs, rfl, rl⟩ := inv_agg r
    exact .agg vs _ (bor_list (fun r => bor_ok m n r) rl)
  | _ => exact bor_ok m n r
theorem bor_args (m : Mine h ρ s w) (n : Nat) : ∀ {l : List AV} {vs : List Value}, RL h (Lf ρ s) false vs l → RL (allOf w) Lf0 true vs (l.map (borC n s))
  | [], _, r => by cases r; exact .nil
  | a :: l, _, r => by cases r with | cons r1 r2 => exact .cons (bor_val m n r1) (bor_args m n r2)
end
/-- what leads to no memory -/
def flatV : AV → Bool
  | .int _ _ => true
  | .bool _ => true
  | .str _ => true
  | _ => false
/-- a function that only reads what is frozen, called with memory of one's own: this stays -/
theorem Ct.borrow {P : Program} {f : FuncId} {args : List AV} {post : AV → Prop} (n : Nat) (s : List Blk) (hc : Pc P f (args.map (borC n s)) post) (hp : ∀ r, post r → flatV r = true) : Ct P f args s (fun r s' => post r ∧ s' = s) := by
  refine ⟨hc.1, fun h ρ w vs m r => ?_⟩
  refine (hc.2 (allOf w) w vs allOf_mem (bor_args m n r)).mono ?_
  rintro en w' ⟨v, r, h', rfl, hpo, hm', _, _, hs, rv⟩
  refine ⟨v, r, s, h, ρ, rfl, ⟨hpo, rfl⟩, m.same hs, Later.same hs, ?_⟩
  have := hp r hpo
  cases rv with
  | int k n => exact .int k n
  | bool b => exact .bool b
  | str s => exact .str s
  | _ => cases this
theorem CtH.borrow {P : Program} {g : Std} {f : FuncId} {args : List AV} {post : AV → Prop} (n : Nat) (s : List Blk) (hc : PcH P g f (args.map (borC n s)) post) (hp : ∀ r, post r → flatV r = true) : CtH P g f args s (fun r s' => post r ∧ s' = s) := by
  refine ⟨hc.1, fun h ρ w vs hg m r => ?_⟩
  refine (hc.2 (allOf w) w vs (fun k o e => (hg k o e).1) allOf_mem (bor_args m n r)).mono ?_
  rintro en w' ⟨v, r, h', rfl, hpo, hm', _, _, hs, rv⟩
  refine ⟨v, r, s, h, ρ, rfl, ⟨hpo, rfl⟩, m.same hs, Later.same hs, ?_⟩
  have := hp r hpo
  cases rv with
  | int k n => exact .int k n
  | bool b => exact .bool b
  | str s => exact .str s
  | _ => cases this
end Go.Av
/- A function that only reads, called with a closure over memory of one's own. Own work of this seat. -/
set_option linter.unusedSimpArgs false
set_option linter.unusedVariables false
set_option linter.unusedSectionVars false
namespace Go.Av
open Go Go.RowKit
variable [Tr]

/-- what a value of one's own is, told as frozen: pointers too -/
def borP (n : Nat) (s : List Blk) : AV → AV
  | .ptr id m i off => match s.getD id .dead with
    | .arr e l => bif decide (m = l.length) && decide (i < l.length) then .pin e (l.map (borC n s)) i off else .any
    | _ => .any
  | x => borC n s x
/-- and functions over such values -/
def borF (n : Nat) (s : List Blk) : AV → AV
  | .fn f r => .fn f (r.map (borP n s))
  | x => borP n s x
section
variable {h : Mem} {ρ : Own} {s : List Blk} {w : World}
theorem borP_ok (m : Mine h ρ s w) (n : Nat) {v : Value} {a : AV} (r : RV h (Lf ρ s) false v a) : RV (allOf w) Lf0 true v (borP n s a) := by
  cases a with
  | ptr id k i off =>
    have hl := (inv_ptr r).2
    simp only [borP]
    cases hq : s[id]? with
    | none =>
      have hgd : s.getD id .dead = .dead := by rw [List.getD_eq_getElem?_getD, hq]; rfl
      rw [hgd]
      exact .any _
    | some b =>
      have hgd : s.getD id .dead = b := by rw [List.getD_eq_getElem?_getD, hq]; rfl
      rw [hgd]
      cases b with
      | arr e l =>
        simp only
        cases hd : decide (k = l.length) && decide (i < l.length) with
        | false => exact .any _
        | true =>
          simp only [Bool.and_eq_true, decide_eq_true_eq] at hd
          obtain ⟨hd1, hd⟩ := hd
          simp only [LfC, hq] at hl
          obtain ⟨_, g, tot, h1, rfl⟩ := hl.2 hd1
          simp only [cond_true]
          rcases m.own id _ hq with ⟨_, hn⟩ | ⟨g', tot', cur, t, h3, h4, h5, h6, h7, h8, h9, h10, h11⟩
          · rw [hn] at h1; cases h1
          · rw [h3] at h1
            simp only [Option.some.injEq, Prod.mk.injEq] at h1
            obtain ⟨rfl, rfl⟩ := h1
            have hfl := flat_length h9
            have hr : RL (allOf w) Lf0 true (cur.toList.take (l.length * e)) (flat (l.map (borC n s))) := by
              rw [bor_flat]
              exact bor_list (fun r => bor_ok m n r) h11
            have := RV.pin (h := allOf w) (Lf := Lf0) (fl := true) g' 0 e (l.map (borC n s)) _ i off hr (fun x hx => by
              obtain ⟨y, hy, rfl⟩ := List.mem_map.1 hx
              rw [bor_cells, List.length_map]
              exact h9 y hy) (fun k v hk => by
              rw [List.getElem?_take] at hk
              split at hk
              · have h12 := h10 v (List.mem_of_getElem? hk)
                unfold allOf
                rw [h4.cell, ← Array.getElem?_toList, Nat.zero_add, hk]
                simp [h12]
              · simp at hk) (by rw [List.length_map]; exact hd)
            rwa [Nat.zero_add] at this
      | _ => exact .any _
  | _ => exact bor_val m n r
theorem borP_list (m : Mine h ρ s w) (n : Nat) : ∀ {l : List AV} {vs : List Value}, RL h (Lf ρ s) false vs l → RL (allOf w) Lf0 true vs (l.map (borP n s))
  | [], _, r => by cases r; exact .nil
  | a :: l, _, r => by cases r with | cons r1 r2 => exact .cons (borP_ok m n r1) (borP_list m n r2)
theorem borF_ok (m : Mine h ρ s w) (n : Nat) {v : Value} {a : AV} (r : RV h (Lf ρ s) false v a) : RV (allOf w) Lf0 true v (borF n s a) := by
  cases a with
  | fn f l =>
    obtain ⟨vs, rfl, rl⟩ := inv_fn r
    exact .fn f vs _ (borP_list m n rl)
  | _ => exact borP_ok m n r
theorem borF_args (m : Mine h ρ s w) (n : Nat) : ∀ {l : List AV} {vs : List Value}, RL h (Lf ρ s) false vs l → RL (allOf w) Lf0 true vs (l.map (borF n s))
  | [], _, r => by cases r; exact .nil
  | a :: l, _, r => by cases r with | cons r1 r2 => exact .cons (borF_ok m n r1) (borF_args m n r2)
end
/-- a function that only reads what is frozen, called with memory of one's own, pointers and functions over it: this stays -/
theorem Ct.borrowF {P : Program} {f : FuncId} {args : List AV} {post : AV → Prop} (n : Nat) (s : List Blk) (hc : Pc P f (args.map (borF n s)) post) (hp : ∀ r, post r → flatV r = true) : Ct P f args s (fun r s' => post r ∧ s' = s) := by
  refine ⟨hc.1, fun h ρ w vs m r => ?_⟩
  refine (hc.2 (allOf w) w vs allOf_mem (borF_args m n r)).mono ?_
  rintro en w' ⟨v, r, h', rfl, hpo, hm', _, _, hs, rv⟩
  refine ⟨v, r, s, h, ρ, rfl, ⟨hpo, rfl⟩, m.same hs, Later.same hs, ?_⟩
  have := hp r hpo
  cases rv with
  | int k n => exact .int k n
  | bool b => exact .bool b
  | str s => exact .str s
  | _ => cases this
theorem CtH.borrowF {P : Program} {g : Std} {f : FuncId} {args : List AV} {post : AV → Prop} (n : Nat) (s : List Blk) (hc : PcH P g f (args.map (borF n s)) post) (hp : ∀ r, post r → flatV r = true) : CtH P g f args s (fun r s' => post r ∧ s' = s) := by
  refine ⟨hc.1, fun h ρ w vs hg m r => ?_⟩
  refine (hc.2 (allOf w) w vs (fun k o e => (hg k o e).1) allOf_mem (borF_args m n r)).mono ?_
  rintro en w' ⟨v, r, h', rfl, hpo, hm', _, _, hs, rv⟩
  refine ⟨v, r, s, h, ρ, rfl, ⟨hpo, rfl⟩, m.same hs, Later.same hs, ?_⟩
  have := hp r hpo
  cases rv with
  | int k n => exact .int k n
  | bool b => exact .bool b
  | str s => exact .str s
  | _ => cases this
end Go.Av
