/- A block of one's own that is frozen, told anew wherever a reference to it stands. Own work of this seat. -/
import Derived.Test.YtpjbbpilgfihbaaGreatDoorN3
import Derived.Test.YtpjbbpilgfihbaaGreatDoorProg
import Derived.Test.YtpjbbpilgfihbaaGreatDoorN1
import Derived.Lib.ItoaNum
import Derived.Lib.Builder
import Derived.ChangeSame
import Derived.HandedShaped
import Derived.LaidMore
import Derived.Lay
import Derived.OpenShut
import Derived.ChangeSlices
import Derived.ProofKit
import Derived.Test.YtpjbbpilgfihbaaGreatDoorCards
import Derived.Test.YtpjbbpilgfihbaaGreatDoorTie
import Derived.Shelf.Vars
import Derived.LaidSub
import Derived.Lib.LaidTab
import Derived.Stop.LaidErr
import Derived.Lib.AppendStr
import Derived.Lib.UnsafeStr
import Derived.WalkKit
set_option linter.unusedSimpArgs false
set_option linter.unusedVariables false
namespace Go.Av
open Go Go.RowKit

section
variable {h : Mem} {ρ : Own} {sto : List Blk} {w : World} {P : Program}

theorem Mine.freeze' (m : Mine h ρ sto w) {id e : Nat} {l : List AV} (hb : sto[id]? = some (.arr e l)) (hf : (flat l).all frozen = true) :
    ∃ h' ρ', (∀ i, i ≠ id → ρ' i = ρ i) ∧ Mine h' ρ' (sto.set id .dead) w ∧ Later h ρ sto w h' ρ' (sto.set id .dead) w ∧
      ∀ v off len cap, LfC ρ sto v (.sl id off len cap) → off + cap = l.length → len ≤ cap → RV h' (Lf ρ' (sto.set id .dead)) false v (.fz e ((l.drop off).take len)) := by
  have hid := (List.getElem?_eq_some_iff.1 hb).1
  rcases m.own id _ hb with ⟨rfl, hn⟩ | ⟨g, tot, cur, t, h3, h4, h5, h6, h7, h8, h9, h10, h11⟩
  · have hk : ∀ v a, Lf ρ sto v a → Lf ρ (sto.set id .dead) v a := fun v a l => ⟨l.1, LfC_set hb (fun _ _ => rfl) trivial l.2⟩
    refine ⟨h, ρ, fun _ _ => rfl, ⟨m.mem, ?_, fun i hi => m.out i (by simpa using hi), m.inj, m.disj⟩, ⟨fun _ _ _ x => x, fun _ _ a b => (b a).elim, hk, rfl, rfl, rfl, Nat.le_refl _, fun _ _ _ => rfl, fun i _ t x => .inl ⟨i, t, x⟩⟩, ?_⟩
    · intro i blk e1
      by_cases hi : i = id
      · subst hi
        simp [hid] at e1
        subst e1
        exact hn
      · rw [List.getElem?_set_ne (Ne.symm hi)] at e1
        exact (m.own i blk e1).mono (fun _ _ _ x => x) hk rfl (fun _ _ _ => rfl)
    · intro v off len cap hl hc hlc
      simp only [LfC, hb] at hl
      rcases hl.2 hc with ⟨rfl, rfl, a, rfl⟩ | ⟨g, tot, h1, _⟩
      · cases a with
        | none => simpa [at0] using RV.fznil e
        | some a => simpa [at0] using RV.fz (h := h) (Lf := Lf ρ (sto.set id .dead)) (fl := false) a.1 a.2 0 e [] [] .nil (by simp) (by simp) (Nat.le_refl _)
      · simp [hn] at h1
  · let h' : Mem := fun b o => if b = g then cur.toList[o]? else h b o
    have hle : ∀ b o v, h b o = some v → h' b o = some v := by
      intro b o v e1
      have : b ≠ g := fun hq => by subst hq; simp [m.disj id b tot h3 o] at e1
      simp [h', this, e1]
    have hk : ∀ v a, Lf ρ sto v a → Lf (upd ρ id none) (sto.set id .dead) v a := fun v a l => ⟨l.1, LfC_set hb (fun i hi => by simp [upd, hi]) trivial l.2⟩
    have hown : ∀ i b t, upd ρ id none i = some (b, t) → i ≠ id ∧ ρ i = some (b, t) := by
      intro i b t e1
      unfold upd at e1
      split at e1
      · simp at e1
      · rename_i hi; exact ⟨hi, e1⟩
    refine ⟨h', upd ρ id none, fun i hi => by simp [upd, hi], ⟨?_, ?_, ?_, ?_, ?_⟩, ⟨hle, ?_, hk, rfl, rfl, rfl, Nat.le_refl _, fun _ _ _ => rfl, fun i b t x => .inl ⟨i, t, (hown i b t x).2⟩⟩, ?_⟩
    · intro b o v e1
      by_cases hq : b = g
      · subst hq
        simp only [h', if_true] at e1
        refine ⟨?_, h10 v (List.mem_of_getElem? e1)⟩
        rw [h4.cell]
        simpa using e1
      · simp only [h', hq, if_false] at e1
        exact m.mem b o v e1
    · intro i blk e1
      by_cases hi : i = id
      · subst hi
        simp [hid] at e1
        subst e1
        simp [OwnB, upd]
      · rw [List.getElem?_set_ne (Ne.symm hi)] at e1
        exact (m.own i blk e1).mono hle hk (by simp [upd, hi]) (fun _ _ _ => rfl)
    · intro i hi
      simp at hi
      simp [upd, m.out i hi]
    · intro i j b t t' hi hj
      exact m.inj i j b t t' (hown i b t hi).2 (hown j b t' hj).2
    · intro i b t hi o
      obtain ⟨h1, h2⟩ := hown i b t hi
      have : b ≠ g := fun hq => by subst hq; exact h1 (m.inj i id _ _ _ h2 h3)
      simp [h', this, m.disj i b t h2 o]
    · intro b o e1 e2
      by_cases hq : b = g
      · subst hq; exact .inl ⟨id, tot, h3⟩
      · simp [h', hq, e1] at e2
    · intro v off len cap hl hc hlc
      simp only [LfC, hb] at hl
      have hfl := flat_length h9
      have hcurl : cur.toList.length = tot * e := by simp [h5]
      rcases hl.2 hc with ⟨rfl, rfl, a, rfl⟩ | ⟨g', tot', h1, rfl, _⟩
      · cases a with
        | none => simpa [at0] using RV.fznil e
        | some a => simpa [at0] using RV.fz (h := h') (Lf := Lf (upd ρ id none) (sto.set id .dead)) (fl := false) a.1 a.2 0 e [] [] .nil (by simp) (by simp) (Nat.le_refl _)
      · rw [h3] at h1
        simp only [Option.some.injEq, Prod.mk.injEq] at h1
        obtain ⟨rfl, rfl⟩ := h1
        have hlen : ((l.drop off).take len).length = len := by simp; omega
        have hr : RL h' (Lf (upd ρ id none) (sto.set id .dead)) true (((cur.toList.take (l.length * e)).drop (off * e)).take (len * e)) (flat ((l.drop off).take len)) := by
          rw [← flat_take (l := l.drop off) (esz := e) (fun x hx => h9 x (List.mem_of_mem_drop hx)) len, ← flat_drop h9 off]
          exact (((frz_all h11 hf).thaw (fun _ _ _ x => x)).mono hle (fun _ _ x => x) |>.drop _).take _
        have := RV.fz (h := h') (Lf := Lf (upd ρ id none) (sto.set id .dead)) (fl := false) g (off * e) (tot - off) e ((l.drop off).take len) _ hr (fun x hx => h9 x (List.mem_of_mem_drop (List.mem_of_mem_take hx))) (fun k v hk => by
          rw [List.getElem?_take] at hk
          split at hk
          · rw [List.getElem?_drop, List.getElem?_take] at hk
            split at hk
            · simp only [h', if_true]; exact hk
            · simp at hk
          · simp at hk) (by rw [hlen]; omega)
        rwa [hlen] at this


/-- a reference to the block, told as what it leads to -/
def frz1 (id e : Nat) (l : List AV) : AV → AV
  | .sl i off len cap => bif i == id && (decide (off + cap = l.length) && decide (len ≤ cap)) then .fz e ((l.drop off).take len) else .sl i off len cap
  | a => a
def frz (id e : Nat) (l : List AV) : AV → AV
  | .agg r => .agg (r.map (frz1 id e l))
  | a => frz1 id e l a
def frzB (id e : Nat) (l : List AV) : Blk → Blk
  | .arr es r => .arr es (r.map (frz id e l))
  | b => b

theorem frz_cells (id e : Nat) (l : List AV) (x : AV) : cellsOf (frz id e l x) = (cellsOf x).map (frz1 id e l) := by
  cases x with
  | sl i off len cap =>
    simp only [frz, frz1, cellsOf, List.map_cons, List.map_nil]
    cases (i == id && (decide (off + cap = l.length) && decide (len ≤ cap))) <;> rfl
  | _ => rfl
theorem frz_flat (id e : Nat) (l : List AV) : ∀ r, flat (r.map (frz id e l)) = (flat r).map (frz1 id e l)
  | [] => rfl
  | x :: r => by simp only [List.map_cons, flat, frz_cells, frz_flat id e l r, List.map_append]

theorem LfC_frz {ρ : Own} {sto : List Blk} {v : Value} {a : AV} (id e : Nat) (l : List AV) (x : LfC ρ sto v a) : LfC ρ (sto.map (frzB id e l)) v a := by
  cases a with
  | sl i off len cap =>
    simp only [LfC, List.getElem?_map] at x ⊢
    cases hq : sto[i]? with
    | none => rw [hq] at x; exact x.elim
    | some b => rw [hq] at x; cases b <;> simp only [Option.map_some, frzB, List.length_map] at x ⊢ <;> exact x
  | ptr i n k off =>
    simp only [LfC, List.getElem?_map] at x ⊢
    cases hq : sto[i]? with
    | none => rw [hq] at x; exact x.elim
    | some b => rw [hq] at x; cases b <;> simp only [Option.map_some, frzB, List.length_map] at x ⊢ <;> exact x
  | mp i =>
    simp only [LfC, List.getElem?_map] at x ⊢
    cases hq : sto[i]? with
    | none => rw [hq] at x; exact x.elim
    | some b => rw [hq] at x; cases b <;> simp only [Option.map_some, frzB] at x ⊢ <;> exact x
  | _ => exact x
theorem Lf_frz {ρ : Own} {sto : List Blk} (id e : Nat) (l : List AV) (v : Value) (a : AV) (x : Lf ρ sto v a) : Lf ρ (sto.map (frzB id e l)) v a := ⟨x.1, LfC_frz id e l x.2⟩

theorem Mine.frz (m : Mine h ρ sto w) {id e : Nat} {l : List AV} (hb : sto[id]? = some (.arr e l)) (hf : (flat l).all frozen = true) :
    ∃ h' ρ', Mine h' ρ' ((sto.set id .dead).map (frzB id e l)) w ∧ Later h ρ sto w h' ρ' ((sto.set id .dead).map (frzB id e l)) w ∧
      ∀ v a, RV h (Lf ρ sto) false v a → RV h' (Lf ρ' ((sto.set id .dead).map (frzB id e l))) false v (frz id e l a) := by
  obtain ⟨h', ρ', hr, m', lt, key⟩ := m.freeze' hb hf
  have hkeep : ∀ v a, Lf ρ sto v a → Lf ρ' ((sto.set id .dead).map (frzB id e l)) v a := fun v a x => Lf_frz id e l v a (lt.keep v a x)
  have k1 : ∀ v a, RV h (Lf ρ sto) false v a → RV h' (Lf ρ' ((sto.set id .dead).map (frzB id e l))) false v (frz1 id e l a) := by
    intro v a x
    cases a with
    | sl i off len cap =>
      simp only [frz1]
      cases hq : (i == id && (decide (off + cap = l.length) && decide (len ≤ cap))) with
      | false => exact x.mono lt.hle hkeep
      | true =>
        simp only [Bool.and_eq_true, beq_iff_eq, decide_eq_true_eq] at hq
        obtain ⟨rfl, h1, h2⟩ := hq
        exact (key v off len cap (inv_sl x).2 h1 h2).mono (fun _ _ _ y => y) (fun v a y => Lf_frz i e l v a y)
    | _ => exact x.mono lt.hle hkeep
  have kl : ∀ (r : List AV) (vs : List Value), RL h (Lf ρ sto) false vs r → RL h' (Lf ρ' ((sto.set id .dead).map (frzB id e l))) false vs (r.map (frz1 id e l)) := by
    intro r
    induction r with
    | nil => intro vs x; cases x; exact .nil
    | cons a r ih => intro vs x; cases x with | cons x1 x2 => exact .cons (k1 _ _ x1) (ih _ x2)
  have k2 : ∀ v a, RV h (Lf ρ sto) false v a → RV h' (Lf ρ' ((sto.set id .dead).map (frzB id e l))) false v (Go.Av.frz id e l a) := by
    intro v a x
    cases a with
    | agg r =>
      cases x with
      | leaf p => exact p.2.elim
      | agg vs _ x => exact .agg vs _ (kl _ _ x)
    | _ => exact k1 _ _ x
  refine ⟨h', ρ', ⟨m'.mem, ?_, fun i hi => m'.out i (by simpa using hi), m'.inj, m'.disj⟩, ⟨lt.hle, lt.hnew, hkeep, lt.os, lt.tape, lt.output, lt.size, lt.block, lt.newown⟩, k2⟩
  intro i blk e1
  by_cases hi : i = id
  · subst hi
    have hid := (List.getElem?_eq_some_iff.1 hb).1
    have e2 := m'.own i .dead (by simp [hid])
    simp [List.getElem?_map, hid, frzB] at e1
    subst e1
    exact e2
  · rw [List.getElem?_map, List.getElem?_set_ne (Ne.symm hi)] at e1
    obtain ⟨b, hb', rfl⟩ := Option.map_eq_some_iff.1 e1
    have o := m.own i b hb'
    cases b with
    | arr es r =>
      rcases o with ⟨h1, h2⟩ | ⟨g, tot, cur, t, h1, h2, h3, h4, h5, h6, h7, h8, h9⟩
      · exact .inl ⟨by simp [h1], (hr i hi).trans h2⟩
      · refine .inr ⟨g, tot, cur, t, (hr i hi).trans h1, h2, h3, by simpa using h4, h5, h6, ?_, h8, ?_⟩
        · intro x hx
          obtain ⟨y, hy, rfl⟩ := List.mem_map.1 hx
          rw [frz_cells, List.length_map]
          exact h7 y hy
        · rw [frz_flat, List.length_map]
          exact kl _ _ h9
    | mp es =>
      obtain ⟨g, en, cl, h1, h2, h3, h4⟩ := o
      refine ⟨g, en, cl, (hr i hi).trans h1, h2, h3, fun k x y hx hy => ?_⟩
      obtain ⟨p, q⟩ := h4 k x y hx hy
      exact ⟨p.mono lt.hle hkeep, q.mono lt.hle hkeep⟩
    | dead => exact (hr i hi).trans o

variable {c : Cx} {en : Env} {s : List Blk}
def frzE (id e : Nat) (l : List AV) : Env → Env
  | [] => []
  | (t, v) :: r => (t, frz id e l v) :: frzE id e l r
theorem get_frzE (id e : Nat) (l : List AV) (t : Nat) : ∀ r, get (frzE id e l r) t = frz id e l (get r t)
  | [] => rfl
  | (t', v) :: r => by
    have ih := get_frzE id e l t r
    simp only [frzE, Go.Av.get]
    cases t' == t with
    | true => rfl
    | false => exact ih

/-- a block is frozen; wherever a reference to it stands, it is told as what it leads to -/
theorem Shift.frz (id : Nat) {es : Nat} {l : List AV} (hb : s.getD id .dead = .arr es l) (hf : (flat l).all frozen = true) :
    Shift c en s (frzE id es l en) ((s.set id .dead).map (frzB id es l)) := by
  rintro a w ⟨hh, ρ, hm, hlt, he, hdf, hsz, hX⟩
  obtain ⟨h', ρ', m', l', key⟩ := hm.frz (sto_get hb) hf
  refine ⟨h', ρ', m', hlt.trans l', fun t => ?_, hdf, hsz, c.hx.later hm l' hX⟩
  rw [get_frzE]
  exact key _ _ (he t)
end
end Go.Av
/- Loops with several ways out, joins: the rest of the text is walked once. Own work of this seat. -/
set_option linter.unusedSimpArgs false
set_option linter.unusedVariables false
namespace Go.Av
open Go Go.RowKit

section
variable {c : Cx} {k : List It} {e : Env} {s : List Blk} {B : Code}

/-- behind a stop 'Q' that says what the rest asks, as behind the rest -/
theorem WQ_mid {e : Exit} {a : Act} {w : World} (h : WQ c (.inv (WQ c k .normal) :: k) e a w) : WQ c k e a w := by
  cases e with
  | normal => exact h
  | exit id => exact h
  | ret => exact h
  | _ => exact h
theorem WQ_mid2 {J : Act → World → Prop} {id : Nat} {e : Exit} {a : Act} {w : World} (h : WQ c (.inv J :: .blk id :: .inv (WQ c k .normal) :: k) e a w) : WQ c (.inv J :: .blk id :: k) e a w := by
  cases e with
  | normal => exact h
  | exit id' =>
    simp only [WQ] at h ⊢
    split at h
    · rename_i hi; rw [if_pos hi]; exact h
    · rename_i hi; rw [if_neg hi]; exact h
  | ret => exact h
  | _ => exact h

/-- A JOIN: what holds behind a piece of code, for some y, however it has been gone through; the rest is walked once. -/
theorem amid {κ : Type} {y : Code} (E : κ → Env) (S : κ → List Blk) (H : κ → Prop) (rest : ∀ x, H x → AWp c k (E x) (S x))
    (step : ∀ Q : Act → World → Prop, (∀ x, H x → ∀ a w, Sim c (E x) (S x) a w → Q a w) → AWp c (.code y :: .inv Q :: k) e s) : AWp c (.code y :: k) e s := by
  intro a w hs
  have := step (WQ c k .normal) (fun x hx a w hs => rest x hx a w hs) a w hs
  exact Code.wp_mono (fun en a' w' hq => WQ_mid hq) (show y.wp c.P (WQ c (.inv (WQ c k .normal) :: k)) a w from this)

/-- A LOOP with several ways out: what holds of each way out, for some y; the rest is walked once. -/
theorem aloopX {ι κ : Type} {id : Nat} (μ : ι → Nat) (E : ι → Env) (S : ι → List Blk) (H : ι → Prop) (Ex : κ → Env) (Sx : κ → List Blk) (Hx : κ → Prop) (x0 : ι) (hH : H x0) (hs : Shift c e s (E x0) (S x0))
    (rest : ∀ y, Hx y → AWp c k (Ex y) (Sx y))
    (step : ∀ x, H x → ∀ J Q : Act → World → Prop, (∀ y, H y → μ y < μ x → ∀ a w, Sim c (E y) (S y) a w → J a w) → (∀ y, Hx y → ∀ a w, Sim c (Ex y) (Sx y) a w → Q a w) → AWp c (.code B :: .inv J :: .blk id :: .inv Q :: k) (E x) (S x)) :
    AWp c (.code (.loop B) :: .blk id :: k) e s :=
  aloop μ E S H x0 hH hs fun x hx J hJ a w hsx =>
    Code.wp_mono (fun en a' w' hq => WQ_mid2 hq) (show B.wp c.P (WQ c (.inv J :: .blk id :: .inv (WQ c k .normal) :: k)) a w from step x hx J (WQ c k .normal) hJ (fun y hy a w hs => rest y hy a w hs) a w hsx)
end
end Go.Av
/- Statements whose order is open and in which calls change a block of one's own. Own work of this seat. -/
set_option linter.unusedSimpArgs false
set_option linter.unusedVariables false
namespace Go.Av
open Go Go.RowKit

/-- may the text's order stand for every order, where 'okp j i' says that i may pass the earlier j? -/
def drawOkG (okp : Nat → Nat → Bool) (ops : List Oper) : Bool :=
  (List.range ops.length).all fun i => (waits ops i).all (fun j => decide (j < i)) && (List.range i).all fun j => okp j i || (anc ops ops.length i).contains j

/-- a reference to a block that stands, and to another one than 'id' -/
def refOk (n id : Nat) : AV → Bool
  | .sl i _ _ _ => decide (i < n) && !(i == id)
  | .ptr i _ _ _ => decide (i < n) && !(i == id)
  | .mp i => decide (i < n) && !(i == id)
  | _ => true
def opOk (n id : Nat) (e : Env) (op : Op) : Bool := op.operands.toList.all fun x => refOk n id (ev e x)
/-- operations that read at most -/
def reader : Op → Bool
  | .call c => match c.callee with
    | .builtin .len | .builtin .max | .builtin .min => true
    | _ => false
  | .buildSlice .. | .makeFunc .. | .convert .. => false
  | .slice _ _ _ _ (some _) => false
  | op => calm op
def isAlloc : Op → Bool
  | .alloc _ => true
  | _ => false

/-- calls of functions -/
def isVal : Op → Bool
  | .call c => match c.callee with
    | .value _ => true
    | _ => false
  | _ => false
theorem xop_val {P : Program} {e : Env} {s s' : List Blk} {op : Op} (h : isVal op = true) : xop false true P e s op = xop false true P e s' op := by
  cases op with
  | call c =>
    cases hc : c.callee with
    | value f => simp only [xop, hc]
    | _ => simp [isVal, hc] at h
  | _ => simp [isVal] at h

/-- tables that are alike but for one block -/
def Agr (n id : Nat) (s s' : List Blk) : Prop := ∀ i, i < n → i ≠ id → s.getD i .dead = s'.getD i .dead
theorem Agr.set {s : List Blk} {id : Nat} (b : Blk) : Agr s.length id s (s.set id b) := fun i hi hne => by
  simp only [List.getD, List.getElem?_set_ne (Ne.symm hne)]
theorem Agr.symm {n id : Nat} {s s' : List Blk} (a : Agr n id s s') : Agr n id s' s := fun i h1 h2 => (a i h1 h2).symm
theorem Agr.push {s : List Blk} {id : Nat} (b : Blk) : Agr s.length id s (s ++ [b]) := fun i hi hne => by
  simp only [List.getD, List.getElem?_append_left hi]

theorem refOk_sl {n id i off len cap : Nat} (h : refOk n id (.sl i off len cap) = true) : i < n ∧ i ≠ id := by simpa [refOk] using h
theorem refOk_ptr {n id i m j off : Nat} (h : refOk n id (.ptr i m j off) = true) : i < n ∧ i ≠ id := by simpa [refOk] using h
theorem refOk_mp {n id i : Nat} (h : refOk n id (.mp i) = true) : i < n ∧ i ≠ id := by simpa [refOk] using h

section
variable {n id : Nat} {s s' : List Blk} (ha : Agr n id s s')
include ha
theorem xload_agr {d : Option TypeDesc} {sz : Nat} {y : AV} (h : refOk n id y = true) : xload d sz s y = xload d sz s' y := by
  cases y <;> try rfl
  obtain ⟨h1, h2⟩ := refOk_ptr h
  simp only [xload, ha _ h1 h2]
theorem xptr_agr {p : Prop} {m : Nat} {y : AV} (h : refOk n id y = true) : xptrAddIf p s y m = xptrAddIf p s' y m := by
  cases y <;> try rfl
  obtain ⟨h1, h2⟩ := refOk_ptr h
  simp only [xptrAddIf, ha _ h1 h2]
theorem xindexAddr_agr {d : Option TypeDesc} {sz : Nat} {x i : AV} (h : refOk n id x = true) : xindexAddr d sz s x i = xindexAddr d sz s' x i := by
  unfold xindexAddr
  split
  · exact xptr_agr ha h
  · cases x <;> try rfl
    obtain ⟨h1, h2⟩ := refOk_sl h
    simp only [ha _ h1 h2]
  · rfl
theorem xlen_agr {d : Option TypeDesc} {x : AV} (h : refOk n id x = true) : xlen s x d = xlen s' x d := by
  unfold xlen
  split <;> first | rfl | skip
  obtain ⟨h1, h2⟩ := refOk_sl h
  rw [ha _ h1 h2]
theorem xnil_agr {x : AV} (h : refOk n id x = true) : xnil s x = xnil s' x := by
  cases x <;> try rfl
  obtain ⟨h1, h2⟩ := refOk_ptr h
  simp only [xnil, ha _ h1 h2]
theorem xlook_agr {P : Program} {x k : AV} {b : Bool} {d : Option TypeDesc} (h : refOk n id x = true) : xlook P s x k b d = xlook P s' x k b d := by
  unfold xlook
  split
  · split
    · obtain ⟨h1, h2⟩ := refOk_mp h
      rw [ha _ h1 h2]
    · rfl
  · rfl
theorem xcut_agr {P : Program} {x : AV} {lo hi : Option AV} {d : Option TypeDesc} (h : refOk n id x = true) : xcut P s x lo hi none d = xcut P s' x lo hi none d := by
  unfold xcut
  split
  · rfl
  · split <;> first | rfl | skip
    obtain ⟨h1, h2⟩ := refOk_sl h
    rw [ha _ h1 h2]
  · rename_i h0; cases h0
  · rfl
theorem xnileq_agr {b : Bool} {x : AV} (h : refOk n id x = true) : xnileq s b x = xnileq s' b x := by
  unfold xnileq
  split <;> first | rfl | skip
  obtain ⟨h1, h2⟩ := refOk_sl h
  rw [ha _ h1 h2]
theorem xbin3_agr {P : Program} {t : TypeId} {wr : Bool} {op : BinOp} {x y : AV} (h : refOk n id x = true) : xbin3 P t wr s op x y = xbin3 P t wr s' op x y := by
  have h2 : ∀ d, xbin2 wr s d op x y = xbin2 wr s' d op x y := fun d => by
    unfold xbin2
    split
    · split
      · exact xnileq_agr ha h
      · exact xnileq_agr ha h
      · rfl
    · rfl
  unfold xbin3
  split
  · rfl
  · exact h2 _

theorem xop_reader {P : Program} {e : Env} {op : Op} (hr : reader op = true) (ho : opOk n id e op = true) : xop false true P e s op = xop false true P e s' op := by
  have hx : ∀ x ∈ op.operands.toList, refOk n id (ev e x) = true := List.all_eq_true.1 ho
  cases op <;> first | rfl | (exfalso; revert hr; simp [reader, calm]; done) | skip
  case binOp op t x y yt => exact xbin3_agr ha (hx x (by simp [Op.operands]))
  case load t x => exact xload_agr ha (hx x (by simp [Op.operands]))
  case fieldAddr t x f =>
    simp only [xop]
    unfold xfieldAddr
    split
    · exact xptr_agr ha (hx x (by simp [Op.operands]))
    · rfl
  case indexAddr t x i => exact xindexAddr_agr ha (hx x (by simp [Op.operands]))
  case nilCheck x => exact xnil_agr ha (hx x (by simp [Op.operands]))
  case lookup t m k b => exact xlook_agr ha (hx m (by simp [Op.operands]))
  case slice t x lo hi mx =>
    cases mx with
    | some y => simp [reader] at hr
    | none => exact xcut_agr ha (hx x (by simp [Op.operands]))
  case unOp op t x => cases op <;> rfl
  case call cl =>
    simp only [xop]
    split <;> try rfl
    · rename_i hc
      unfold xlen2
      split
      · rename_i x r t r' h1 h2
        exact xlen_agr ha (hx x (by simp [Op.operands, Call.operands, h1]))
      · rfl
    all_goals (rename_i hc; simp [reader, hc] at hr)
end

/-- what a call comes to that changes the block 'id' alone -/
def McC (c : Cx) (f : FuncId) (args : List AV) (id : Nat) (blk : Blk) (post : AV → Blk → Prop) : Prop :=
  hasBody c.P f = true ∧ ∀ h ρ s w vs, s[id]? = some blk → Mine h ρ s w → Later c.h c.ρ c.sto c.w h ρ s w → RL h (Lf ρ s) false vs args → Calls c.P f vs.toArray w fun en w' =>
    ∃ v r b h' ρ', en = .returned v ∧ post r b ∧ Mine h' ρ' (s.set id b) w' ∧ Later h ρ s w h' ρ' (s.set id b) w' ∧ RV h' (Lf ρ' (s.set id b)) false v r
def ICall (c : Cx) (f : FuncId) (args : List AV) (id : Nat) (s : List Blk) (K : AV → List Blk → Prop) : Prop :=
  ∃ blk post, s[id]? = some blk ∧ McC c f args id blk post ∧ (∃ r b, post r b) ∧ ∀ r b, post r b → K r (s.set id b)
def Imp (c : Cx) (id : Nat) (o : Oper) (e : Env) (s : List Blk) (K : AV → List Blk → Prop) : Prop :=
  o.guard = none ∧ ∃ f args, xop false true c.P e s o.op = .call f args ∧ ICall c f args id s K

def ChI (c : Cx) (ops : Array Oper) (im : List Nat) (id : Nat) (K : Env → List Blk → Prop) : List Nat → Env → List Blk → Prop
  | [], e, s => K e s
  | i :: r, e, s => match ops[i]? with
    | none => False
    | some o => bif im.contains i then Imp c id o e s (fun v s' => ChI c ops im id K r (put e o.dst v) s')
      else (reader o.op = true → blind o.op = false → opOk s.length id e o.op = true) ∧ ∃ cv v s', Does c ops s o cv e v s' ∧ ChI c ops im id K r (put e o.dst v) s'

/-- may i pass the earlier j? -/
def okI (ops : List Oper) (im : List Nat) (j i : Nat) : Bool := match ops[j]?, ops[i]? with
  | some oj, some oi => oj.apart ops.toArray oi && (bif im.contains i then !im.contains j && reader oj.op else bif im.contains j then reader oi.op || (isAlloc oi.op && isVal oj.op) else together oj oi || ((reader oj.op || isVal oj.op) && isAlloc oi.op))
  | _, _ => false

section
variable {cx : Cx} {ops : Array Oper} {s : List Blk} {K : Env → List Blk → Prop} {im : List Nat} {id : Nat}

theorem reader_calm {op : Op} (hr : reader op = true) : calm op = true := by
  cases op <;> first | rfl | (exfalso; revert hr; simp [reader, calm]; done) | skip
  case slice t x lo hi mx =>
    cases mx with
    | none => rfl
    | some y => simp [reader] at hr
  case call cl =>
    cases hc : cl.callee with
    | builtin b => cases b <;> simp [reader, hc] at hr <;> simp [calm, hc]
    | _ => simp [reader, hc] at hr
theorem doesOp_reader {n : Nat} {s s' s1 : List Blk} {o : Oper} {cv v : AV} {e : Env} (hr : reader o.op = true) (ho : opOk n id e o.op = true) (ha : Agr n id s s') (h : DoesOp cx s o cv e v s1) : s1 = s ∧ DoesOp cx s' o cv e v s' := by
  have hx := xop_reader (P := cx.P) ha hr ho
  have hc : calm o.op = true := reader_calm hr
  have hs := h.calm hc
  refine ⟨hs, ?_⟩
  subst hs
  unfold DoesOp at h ⊢
  rw [← hx]
  split at h <;> rename_i hq
  · exact ⟨h.1, rfl⟩
  · exact ⟨h.1, h.2.1, rfl⟩
  · rw [hc] at h; cases h.1
  · exact ⟨h.1, rfl⟩
  · exact ⟨h.1, h.2.1, h.2.2.1, rfl⟩
  · exact h.elim
theorem does_reader {n : Nat} {s s' s1 : List Blk} {o : Oper} {cv v : AV} {e : Env} (hr : reader o.op = true) (ho : blind o.op = false → opOk n id e o.op = true) (ha : Agr n id s s') (h : Does cx ops s o cv e v s1) : s1 = s ∧ Does cx ops s' o cv e v s' := by
  cases hb : blind o.op with
  | true =>
    have := h.calm (blind_calm hb)
    exact ⟨this, h.blind hb⟩
  | false =>
  replace ho := ho hb
  unfold Does at h ⊢
  split at h
  · exact doesOp_reader hr ho ha h
  · split at h
    · rcases h with ⟨h1, h⟩ | ⟨h1, h2, h⟩
      · obtain ⟨x, y⟩ := doesOp_reader hr ho ha h
        exact ⟨x, .inl ⟨h1, y⟩⟩
      · exact ⟨h, .inr ⟨h1, h2, rfl⟩⟩
    · exact h.elim
def Res.isCall : Res → Bool
  | .call .. => true
  | _ => false
theorem xint_nc {op : BinOp} {k : IntKind} {a b : Int} : (xint false op k a b).isCall = false := by cases op <;> rfl
theorem xbin_nc {d : Option TypeDesc} {op : BinOp} {x y : AV} : (xbin false d op x y).isCall = false := by
  unfold xbin
  split
  · split
    · exact xint_nc
    · rfl
  · cases op <;> rfl
  · unfold xbool; split <;> rfl
  · rfl
theorem xbin3_nc {P : Program} {t : TypeId} {op : BinOp} {x y : AV} : (xbin3 P t false s op x y).isCall = false := by
  unfold xbin3
  split
  · split
    · unfold xeqs
      split
      · unfold xeqop
        split
        · split <;> rfl
        · rfl
      · rfl
    · rfl
  · unfold xbin2
    split
    · split
      · unfold xnileq; split <;> first | rfl | (split <;> rfl)
      · unfold xnileq; split <;> first | rfl | (split <;> rfl)
      · rfl
    · exact xbin_nc
theorem xptr_nc {p : Prop} {x : AV} {n : Nat} : (xptrAddIf p s x n).isCall = false := by
  unfold xptrAddIf
  split <;> first | rfl | (split <;> rfl)
theorem xop_nocall {P : Program} {e : Env} {op : Op} (hr : reader op = true) : (xop false true P e s op).isCall = false := by
  cases op <;> first | rfl | (exfalso; revert hr; simp [reader, calm]; done) | skip
  case binOp op t x y yt => exact xbin3_nc
  case unOp op t x =>
    cases op <;> first | rfl | skip
    · simp only [xop]; unfold xneg; split <;> rfl
    · simp only [xop]; unfold xnot; split <;> rfl
  case pick cc x y => simp only [xop]; unfold xpick; split <;> rfl
  case extract x i => simp only [xop]; unfold xextract; split <;> rfl
  case index t x i => simp only [xop]; unfold xindex; split <;> rfl
  case field t x f =>
    simp only [xop]; unfold xfieldF
    split
    · split <;> rfl
    · rfl
  case fieldAddr t x f =>
    simp only [xop]; unfold xfieldAddr
    split
    · exact xptr_nc
    · rfl
  case indexAddr t x i =>
    simp only [xop]; unfold xindexAddr
    split
    · exact xptr_nc
    · split <;> first | rfl | (split <;> rfl)
    · rfl
  case load t x =>
    simp only [xop]; unfold xload
    split <;> first | rfl | (split <;> rfl)
  case build t parts =>
    simp only [xop]; unfold xbuild
    split <;> first | rfl | (split <;> rfl)
  case nilCheck x =>
    simp only [xop]; unfold xnil
    split <;> first | rfl | (split <;> rfl)
  case lookup t m k b =>
    simp only [xop]; unfold xlook
    split
    · split
      · unfold xlookB
        split
        · cases isKey _ _ with
          | false => rfl
          | true => simp only [cond_true]; unfold xlookF; split <;> rfl
        · rfl
      · rfl
    · rfl
  case slice t x lo hi mx =>
    cases mx with
    | some y => simp [reader] at hr
    | none =>
      simp only [xop, evo]; unfold xcut
      split
      · split
        · unfold xcutS; split <;> rfl
        · rfl
      · split
        · unfold xcutF; split <;> rfl
        · unfold xcutB; split <;> rfl
        · unfold xcutN; split <;> rfl
        · rfl
      · rename_i a b; first | (cases a; done) | (cases b; done)
      · rfl
  case call cl =>
    simp only [xop]
    split
    · unfold xlen2
      split
      · unfold xlen; split <;> first | rfl | (split <;> rfl)
      · rfl
    · rename_i hc; simp [reader, hc] at hr
    · rename_i hc; simp [reader, hc] at hr
    · rename_i hc; simp [reader, hc] at hr
    · unfold xmax; split
      · rename_i k a k' b _; cases decide (k = k') <;> rfl
      · rfl
    · unfold xmax; split
      · rename_i k a k' b _; cases decide (k = k') <;> rfl
      · rfl
    · rename_i hc; simp [reader, hc] at hr
    · rfl
theorem does_det {s s1 s2 : List Blk} {o : Oper} {cv cv2 v v2 : AV} {e : Env} (hr : reader o.op = true) (h : Does cx ops s o cv e v s1) (h2 : Does cx ops s o cv2 e v2 s2) : v = v2 := by
  have key : ∀ {s1 s2}, DoesOp cx s o cv e v s1 → DoesOp cx s o cv2 e v2 s2 → v = v2 := by
    intro s1 s2 h h2
    unfold DoesOp at h h2
    have hn := xop_nocall (P := cx.P) (e := e) (s := s) hr
    revert h h2 hn
    cases xop false true cx.P e s o.op with
    | ok u => intro h h2 _; rw [h.1, h2.1]
    | side p u => intro h h2 _; rw [h.2.1, h2.2.1]
    | sto p u s' => intro h h2 _; rw [h.2.2.1, h2.2.2.1]
    | pick b x y => intro h h2 _; rw [h.1, h2.1]
    | call f args => intro _ _ hn; cases hn
    | anyb p => intro h _ _; exact h.elim
    | stuck => intro h _ _; exact h.elim
  unfold Does at h h2
  split at h
  · rename_i hg; rw [hg] at h2; exact key h h2
  · rename_i j want hg
    rw [hg] at h2
    simp only at h2
    split at h
    · rename_i b hb
      rw [hb] at h2
      simp only at h2
      rcases h with ⟨h1, h⟩ | ⟨h1, h, _⟩ <;> rcases h2 with ⟨h3, h4⟩ | ⟨h3, h4, _⟩
      · exact key h h4
      · exact (h3 h1).elim
      · exact (h1 h3).elim
      · rw [h, h4]
    · exact h.elim

theorem opOk_agree {n : Nat} {e e' : Env} {op : Op} (h : ∀ x ∈ op.operands, ev e x = ev e' x) : opOk n id e op = opOk n id e' op := by
  unfold opOk
  rw [Bool.eq_iff_iff, List.all_eq_true, List.all_eq_true]
  constructor
  · intro a x hx; rw [← h x (by simpa using hx)]; exact a x hx
  · intro a x hx; rw [h x (by simpa using hx)]; exact a x hx
theorem refOk_mono {n m : Nat} (h : n ≤ m) {a : AV} (x : refOk n id a = true) : refOk m id a = true := by
  cases a <;> simp only [refOk, Bool.and_eq_true, decide_eq_true_eq] at x ⊢ <;> exact ⟨by omega, x.2⟩
theorem opOk_mono {n m : Nat} (h : n ≤ m) {e : Env} {op : Op} (x : opOk n id e op = true) : opOk m id e op = true := by
  unfold opOk at x ⊢
  rw [List.all_eq_true] at x ⊢
  exact fun y hy => refOk_mono h (x y hy)

theorem Imp.agree {o : Oper} {e e' : Env} {s : List Blk} {K K' : AV → List Blk → Prop} (h : ∀ x ∈ o.op.operands, ev e x = ev e' x) (hK : ∀ r s, K r s → K' r s) (x : Imp cx id o e s K) : Imp cx id o e' s K' := by
  obtain ⟨h1, f, args, h2, blk, post, h3, h4, h5, h6⟩ := x
  exact ⟨h1, f, args, by rw [← xop_agree h]; exact h2, blk, post, h3, h4, h5, fun r b hp => hK _ _ (h6 r b hp)⟩

theorem ChI.congr (hK : ∀ e e' s, Eqv e e' → K e s → K e' s) : ∀ {l : List Nat} {e e' : Env} {s : List Blk}, Eqv e e' → ChI cx ops im id K l e s → ChI cx ops im id K l e' s
  | [], e, e', s, h, x => hK e e' s h x
  | i :: r, e, e', s, h, x => by
    unfold ChI at x ⊢
    split at x
    · exact x.elim
    · rename_i o ho
      cases hi : im.contains i with
      | true =>
        rw [hi] at x
        exact Imp.agree (fun y _ => ev_agree fun t _ => h t) (fun r' s' z => ChI.congr hK (h.put _ _) z) x
      | false =>
        rw [hi] at x
        obtain ⟨h1, cv, v, s', h2, h3⟩ := x
        exact ⟨fun hr hb => by rw [← opOk_agree (e := e) (fun y _ => ev_agree fun t _ => h t)]; exact h1 hr hb, cv, v, s', h2.agree fun t _ => h t, ChI.congr hK (h.put _ _) h3⟩

theorem put_swap {e : Env} {d d' : Option Tmp} {v v' : AV} (h : ∀ t, d = some t → d' ≠ some t) : Eqv (put (put e d v) d' v') (put (put e d' v') d v) := fun t => by
  rw [get_put, get_put, get_put, get_put]
  by_cases h1 : d = some t
  · simp [h1, h t h1]
  · simp [h1]

theorem alloc_does {s s1 : List Blk} {o : Oper} {cv v : AV} {e : Env} (ha : isAlloc o.op = true) (h : Does cx ops s o cv e v s1) : s1 = s ∨ ∃ b, s1 = s ++ [b] := by
  have key : DoesOp cx s o cv e v s1 → s1 = s ∨ ∃ b, s1 = s ++ [b] := by
    intro h
    cases ho : o.op <;> rw [ho] at ha <;> simp [isAlloc] at ha
    rename_i t
    unfold DoesOp at h
    rw [ho] at h
    simp only [xop] at h
    unfold xalloc at h
    cases hr : isRow (cx.P.underlying t) with
    | true =>
      rw [hr] at h
      simp only [cond_true, xnew] at h
      exact .inr ⟨_, h.2.2.2⟩
    | false =>
      rw [hr] at h
      simp only [cond_false] at h
      split at h
      · rename_i z hz
        split at hz
        · simp [xnew] at hz
        · cases hz
      · rename_i z hz
        split at hz
        · simp [xnew] at hz
        · cases hz
      · rename_i p u s2 hz
        split at hz
        · simp only [xnew, Res.sto.injEq] at hz
          obtain ⟨_, _, rfl⟩ := hz
          exact .inr ⟨_, h.2.2.2⟩
        · cases hz
      · rename_i hz
        split at hz <;> simp [xnew] at hz
      · rename_i hz
        split at hz <;> simp [xnew] at hz
      · exact h.elim
  unfold Does at h
  split at h
  · exact key h
  · split at h
    · rcases h with ⟨_, h⟩ | ⟨_, _, h⟩
      · exact key h
      · exact .inl h
    · exact h.elim

/-- a new block is the same whatever the others hold -/
theorem alloc_any {s s1 : List Blk} {o : Oper} {cv v : AV} {e : Env} (ha : isAlloc o.op = true) (h : Does cx ops s o cv e v s1) :
    ∃ t, s1 = s ++ t ∧ ∀ s2 cv2, s2.length = s.length → Does cx ops s2 o cv2 e v (s2 ++ t) := by
  have key : DoesOp cx s o cv e v s1 → ∃ t, s1 = s ++ t ∧ ∀ s2 cv2, s2.length = s.length → DoesOp cx s2 o cv2 e v (s2 ++ t) := by
    intro h
    cases ho : o.op <;> rw [ho] at ha <;> simp [isAlloc] at ha
    rename_i t
    unfold DoesOp at h
    rw [ho] at h
    simp only [xop] at h
    unfold xalloc at h
    cases hr : isRow (cx.P.underlying t) with
    | true =>
      rw [hr] at h
      simp only [cond_true, xnew] at h
      obtain ⟨h1, h2, h3, h4⟩ := h
      refine ⟨_, h4, fun s2 cv2 hl => ?_⟩
      unfold DoesOp
      rw [ho]
      simp only [xop, xalloc, hr, cond_true, xnew]
      exact ⟨h1, h2, by rw [hl]; exact h3, trivial⟩
    | false =>
      rw [hr] at h
      simp only [cond_false] at h
      split at h
      · rename_i z hz
        split at hz
        · simp [xnew] at hz
        · cases hz
      · rename_i z hz
        split at hz
        · simp [xnew] at hz
        · cases hz
      · rename_i p u s2 hz
        split at hz
        · rename_i x hq
          simp only [xnew, Res.sto.injEq] at hz
          obtain ⟨rfl, rfl, rfl⟩ := hz
          obtain ⟨h1, h2, h3, h4⟩ := h
          refine ⟨_, h4, fun s3 cv2 hl => ?_⟩
          unfold DoesOp
          rw [ho]
          simp only [xop, xalloc, hr, cond_false, hq, xnew]
          exact ⟨h1, h2, by rw [hl]; exact h3, trivial⟩
        · cases hz
      · rename_i hz
        split at hz <;> simp [xnew] at hz
      · rename_i hz
        split at hz <;> simp [xnew] at hz
      · exact h.elim
  unfold Does at h
  split at h
  · rename_i hg
    obtain ⟨t, h1, h2⟩ := key h
    exact ⟨t, h1, fun s2 cv2 hl => by unfold Does; rw [hg]; exact h2 s2 cv2 hl⟩
  · rename_i j want hg
    split at h
    · rename_i b hb
      rcases h with ⟨hw, h⟩ | ⟨hw, hv, hs⟩
      · obtain ⟨t, h1, h2⟩ := key h
        exact ⟨t, h1, fun s2 cv2 hl => by unfold Does; rw [hg]; simp only [hb]; exact .inl ⟨hw, h2 s2 cv2 hl⟩⟩
      · exact ⟨[], by simp [hs], fun s2 cv2 hl => by unfold Does; rw [hg]; simp only [hb]; exact .inr ⟨hw, hv, by simp⟩⟩
    · exact h.elim
theorem alloc_det {s s1 s2 : List Blk} {o : Oper} {cv cv2 v v2 : AV} {e : Env} (ha : isAlloc o.op = true) (h : Does cx ops s o cv e v s1) (h2 : Does cx ops s o cv2 e v2 s2) : v = v2 ∧ s1 = s2 := by
  have key : DoesOp cx s o cv e v s1 → DoesOp cx s o cv2 e v2 s2 → v = v2 ∧ s1 = s2 := by
    intro h h2
    cases ho : o.op <;> rw [ho] at ha <;> simp [isAlloc] at ha
    rename_i t
    unfold DoesOp at h h2
    rw [ho] at h h2
    revert h h2
    have hn : ∀ f args, xop false true cx.P e s (.alloc t) ≠ .call f args := by
      intro f args
      simp only [xop]
      unfold xalloc
      cases isRow (cx.P.underlying t) with
      | true => simp [xnew]
      | false =>
        simp only [cond_false]
        split <;> simp [xnew]
    cases hx : xop false true cx.P e s (.alloc t) with
    | ok u => intro h h2; exact ⟨by rw [h.1, h2.1], by rw [h.2, h2.2]⟩
    | side p u => intro h h2; exact ⟨by rw [h.2.1, h2.2.1], by rw [h.2.2, h2.2.2]⟩
    | sto p u s' => intro h h2; exact ⟨by rw [h.2.2.1, h2.2.2.1], by rw [h.2.2.2, h2.2.2.2]⟩
    | pick b x y => intro h h2; exact ⟨by rw [h.1, h2.1], by rw [h.2, h2.2]⟩
    | call f args => exact (hn _ _ hx).elim
    | anyb p => intro h _; exact h.elim
    | stuck => intro h _; exact h.elim
  unfold Does at h h2
  split at h
  · rename_i hg; rw [hg] at h2; exact key h h2
  · rename_i j want hg
    rw [hg] at h2
    simp only at h2
    split at h
    · rename_i b hb
      rw [hb] at h2
      simp only at h2
      rcases h with ⟨h1, h⟩ | ⟨h1, h, h'⟩ <;> rcases h2 with ⟨h3, h4⟩ | ⟨h3, h4, h4'⟩
      · exact key h h4
      · exact (h3 h1).elim
      · exact (h1 h3).elim
      · exact ⟨by rw [h, h4], by rw [h', h4']⟩
    · exact h.elim

theorem does_val {s s1 : List Blk} {o : Oper} {cv v : AV} {e : Env} (ha : isVal o.op = true) (h : Does cx ops s o cv e v s1) : s1 = s ∧ ∀ s2, Does cx ops s2 o cv e v s2 := by
  have key : DoesOp cx s o cv e v s1 → s1 = s ∧ ∀ s2, DoesOp cx s2 o cv e v s2 := by
    intro h
    have hx : ∀ s2, xop false true cx.P e s2 o.op = xop false true cx.P e s o.op := fun s2 => xop_val ha
    have hr : ∀ p u s', xop false true cx.P e s o.op ≠ .sto p u s' := by
      intro p u s'
      cases ho : o.op with
      | call c =>
        rw [ho] at ha
        cases hc : c.callee with
        | value f =>
          simp only [xop, hc]
          unfold xcall
          split <;> simp
        | _ => simp [isVal, hc] at ha
      | _ => rw [ho] at ha; simp [isVal] at ha
    unfold DoesOp at h ⊢
    revert h
    cases hq : xop false true cx.P e s o.op with
    | ok u => intro h; exact ⟨h.2, fun s2 => by rw [hx, hq]; exact ⟨h.1, rfl⟩⟩
    | side p u => intro h; exact ⟨h.2.2, fun s2 => by rw [hx, hq]; exact ⟨h.1, h.2.1, rfl⟩⟩
    | sto p u s' => exact (hr _ _ _ hq).elim
    | pick b x y => intro h; exact ⟨h.2, fun s2 => by rw [hx, hq]; exact ⟨h.1, rfl⟩⟩
    | call f args => intro h; exact ⟨h.2.2.2, fun s2 => by rw [hx, hq]; exact ⟨h.1, h.2.1, h.2.2.1, rfl⟩⟩
    | anyb p => intro h; exact h.elim
    | stuck => intro h; exact h.elim
  unfold Does at h ⊢
  split at h
  · exact key h
  · rename_i j want hg
    split at h
    · rename_i b hb
      rcases h with ⟨hw, h⟩ | ⟨hw, hv, hs⟩
      · exact ⟨(key h).1, fun s2 => .inl ⟨hw, (key h).2 s2⟩⟩
      · exact ⟨hs, fun s2 => .inr ⟨hw, hv, rfl⟩⟩
    · exact h.elim

theorem ChI.swap {opl : List Oper} (hops : ops = opl.toArray) (hK : ∀ e e' s, Eqv e e' → K e s → K e' s) {i j : Nat} {r : List Nat} (hok : okI opl im j i = true) {e : Env} {s : List Blk} (x : ChI cx ops im id K (j :: i :: r) e s) :
    ChI cx ops im id K (i :: j :: r) e s := by
  unfold okI at hok
  split at hok
  rotate_left
  · cases hok
  rename_i oj oi hj' hi'
  have hj : ops[j]? = some oj := by rw [hops]; simpa using hj'
  have hi : ops[i]? = some oi := by rw [hops]; simpa using hi'
  simp only [Bool.and_eq_true] at hok
  obtain ⟨ha, hok⟩ := hok
  rw [← hops] at ha
  obtain ⟨a1, a2, a3⟩ := Oper.apart_spec ha
  -- operands of i do not see j's result, and the other way round
  have gi : ∀ (e : Env) (v : AV), Agree ops oi (put e oj.dst v) e := fun e v t ht => by
    rw [get_put, if_neg]; intro h; exact a1 t h ht
  have gj : ∀ (e : Env) (v : AV), Agree ops oj e (put e oi.dst v) := fun e v t ht => by
    rw [get_put, if_neg]; intro h; exact a3 t h ht
  have sw : ∀ (e : Env) (v u : AV), Eqv (put (put e oj.dst v) oi.dst u) (put (put e oi.dst u) oj.dst v) := fun e v u => put_swap a2
  simp only [ChI, hi, hj] at x ⊢
  cases mi : im.contains i with
  | true =>
    rw [mi] at hok x
    simp only [cond_true, Bool.and_eq_true, Bool.not_eq_true'] at hok
    obtain ⟨mj, rj⟩ := hok
    rw [mj] at x ⊢
    simp only [cond_true, cond_false] at x ⊢
    obtain ⟨o1, cv, v, s', d1, y⟩ := x
    obtain ⟨rfl, _⟩ := does_reader rj (o1 rj) (Agr.set (id := id) .dead) d1
    obtain ⟨h1, f, args, h2, blk, post, h3, h4, h5, h6⟩ := y
    refine ⟨h1, f, args, by rw [← xop_agree (agree_ops (gi e v))]; exact h2, blk, post, h3, h4, h5, fun u b hp => ?_⟩
    have hs := (does_reader rj (o1 rj) (Agr.set b) d1).2
    refine ⟨fun _ hb => ?_, cv, v, _, hs.agree (gj e u), ChI.congr hK (sw e v u) (h6 u b hp)⟩
    rw [← opOk_agree (e := e) (agree_ops (gj e u)), List.length_set]
    exact o1 rj hb
  | false =>
    rw [mi] at hok x
    simp only [cond_false] at hok x ⊢
    cases mj : im.contains j with
    | true =>
      rw [mj] at hok x
      simp only [cond_true] at hok x ⊢
      obtain ⟨h1, f, args, h2, blk, post, h3, h4, ⟨u0, b0, h5⟩, h6⟩ := x
      obtain ⟨o0, cv0, v0, s0, d0, z0⟩ := h6 u0 b0 h5
      simp only [Bool.or_eq_true, Bool.and_eq_true] at hok
      rcases hok with hok | ⟨hok, hval⟩
      rotate_left
      · have hni : reader oi.op = false := by
          cases ho : oi.op <;> rw [ho] at hok <;> simp [isAlloc] at hok
          rfl
        have hid := (List.getElem?_eq_some_iff.1 h3).1
        obtain ⟨t, e1, d1⟩ := alloc_any hok (d0.agree (gi e u0))
        have d0s := d1 s cv0 (by simp)
        refine ⟨fun hr => (by rw [hni] at hr; cases hr), cv0, v0, s ++ t, d0s, h1, f, args, ?_, blk, post, ?_, h4, ⟨u0, b0, h5⟩, fun u b hp => ?_⟩
        · rw [← xop_agree (agree_ops (gj e v0)), xop_val (s' := s) hval]; exact h2
        · rw [List.getElem?_append_left hid]; exact h3
        · obtain ⟨_, cv, v, s', d, y⟩ := h6 u b hp
          obtain ⟨t', e2, d2⟩ := alloc_any hok (d.agree (gi e u))
          obtain ⟨e3, e4⟩ := alloc_det hok (d2 s cv (by simp)) d0s
          subst e3
          have e5 : t' = t := List.append_cancel_left e4
          subst e5
          rw [List.set_append_left _ _ hid, ← e2]
          exact ChI.congr hK (sw e u v) y
      have ok0 : blind oi.op = false → opOk s.length id e oi.op = true := fun hb => by
        have := o0 hok hb
        rw [opOk_agree (agree_ops (gi e u0)), List.length_set] at this
        exact this
      have d0' : Does cx ops (s.set id b0) oi cv0 e v0 s0 := d0.agree (gi e u0)
      have d0s := (does_reader hok ok0 ((Agr.set (s := s) (id := id) b0).symm) d0').2
      refine ⟨fun _ => ok0, cv0, v0, s, d0s, h1, f, args, ?_, blk, post, h3, h4, ⟨u0, b0, h5⟩, fun u b hp => ?_⟩
      · rw [← xop_agree (agree_ops (gj e v0))]; exact h2
      · obtain ⟨_, cv, v, s', d, y⟩ := h6 u b hp
        have d' : Does cx ops (s.set id b) oi cv e v s' := d.agree (gi e u)
        obtain ⟨e1, ds⟩ := does_reader hok ok0 ((Agr.set (s := s) (id := id) b).symm) d'
        subst e1
        have := does_det hok d0s ds
        subst this
        exact ChI.congr hK (sw e u v0) y
    | false =>
      rw [mj] at hok x
      simp only [cond_false] at hok x ⊢
      obtain ⟨o1, cv, v, s1, h1, o2, cu, u, s2, h2, h3⟩ := x
      have h2' : Does cx ops s1 oi cu e u s2 := h2.agree (gi e v)
      have h1' : ∀ {z z'}, Does cx ops z oj cv e v z' → Does cx ops z oj cv (put e oi.dst u) v z' := fun hd => hd.agree (gj e u)
      have h3' := ChI.congr hK (sw e v u) h3
      have oi' : ∀ {n}, reader oi.op = true → opOk n id (put e oj.dst v) oi.op = opOk n id e oi.op := fun _ => opOk_agree (agree_ops (gi e v))
      have oj' : ∀ {n}, opOk n id e oj.op = opOk n id (put e oi.dst u) oj.op := opOk_agree (agree_ops (gj e u))
      simp only [Bool.or_eq_true, Bool.and_eq_true, together] at hok
      rcases hok with ((⟨c1, c2⟩ | c1) | c1) | ⟨c1, c2⟩
      · have e1 := h1.calm c1
        subst e1
        have e2 := h2.calm c2
        subst e2
        exact ⟨fun hr hb => by rw [← oi' hr]; exact o2 hr hb, cu, u, _, h2', fun hr hb => by rw [← oj']; exact o1 hr hb, cv, v, _, h1' h1, h3'⟩
      · have e1 := h1.calm (blind_calm c1)
        subst e1
        exact ⟨fun hr hb => by rw [← oi' hr]; exact o2 hr hb, cu, u, _, h2', fun hr hb => (by rw [c1] at hb; cases hb), cv, v, _, h1' (h1.blind c1), h3'⟩
      · have e2 := h2.calm (blind_calm c1)
        subst e2
        exact ⟨fun hr hb => (by rw [c1] at hb; cases hb), cu, u, _, h2'.blind c1, fun hr hb => by rw [← oj']; exact o1 hr hb, cv, v, _, h1' h1, h3'⟩
      · rcases c1 with c1 | c1
        rotate_left
        · obtain ⟨rfl, dv⟩ := does_val c1 h1
          have hni : reader oi.op = false := by
            cases ho : oi.op <;> rw [ho] at c2 <;> simp [isAlloc] at c2
            rfl
          have hnj : reader oj.op = false := by
            cases ho : oj.op <;> rw [ho] at c1 <;> simp [isVal] at c1
            rename_i c
            simp only [reader]
            split <;> first | rfl | (rename_i hc; simp [hc] at c1)
          exact ⟨fun hr => (by rw [hni] at hr; cases hr), cu, u, _, h2', fun hr => (by rw [hnj] at hr; cases hr), cv, v, _, h1' (dv _), h3'⟩
        have ok1 := o1 c1
        obtain ⟨rfl, _⟩ := does_reader c1 ok1 (Agr.set (id := id) .dead) h1
        have hni : reader oi.op = false := by
          cases ho : oi.op <;> rw [ho] at c2 <;> simp [isAlloc] at c2
          rfl
        rcases alloc_does c2 h2' with e1 | ⟨b, e1⟩
        · subst e1
          exact ⟨fun hr => (by rw [hni] at hr; cases hr), cu, u, _, h2', fun hr hb => by rw [← oj']; exact ok1 hb, cv, v, _, h1' h1, h3'⟩
        · subst e1
          exact ⟨fun hr => (by rw [hni] at hr; cases hr), cu, u, _, h2', fun hr hb => by rw [← oj']; exact opOk_mono (by simp) (ok1 hb), cv, v, _, h1' (does_reader c1 ok1 (Agr.push b) h1).2, h3'⟩

theorem ChI.front {opl : List Oper} (hops : ops = opl.toArray) (hK : ∀ e e' s, Eqv e e' → K e s → K e' s) : ∀ (l : List Nat) (i : Nat) (r : List Nat) (e : Env) (s : List Blk), (∀ j ∈ l, okI opl im j i = true) →
    ChI cx ops im id K (l ++ i :: r) e s → ChI cx ops im id K (i :: (l ++ r)) e s
  | [], _, _, _, _, _, x => x
  | j :: l, i, r, e, s, h, x => by
    refine ChI.swap hops hK (h j (by simp)) ?_
    have ih := fun e s => ChI.front hops hK l i r e s fun k hk => h k (by simp [hk])
    simp only [List.cons_append, ChI] at x ⊢
    split at x
    · exact x.elim
    · rename_i o ho
      cases hm : im.contains j with
      | true =>
        rw [hm] at x
        exact Imp.agree (fun _ _ => rfl) (fun r' s' z => ih _ _ z) x
      | false =>
        rw [hm] at x
        obtain ⟨h1, cv, v, s', h2, h3⟩ := x
        exact ⟨h1, cv, v, s', h2, ih _ _ h3⟩
end

section
variable {c : Cx} {k : List It} {e : Env} {s : List Blk}

/-- whatever order is drawn, whatever is carried from operation to operation -/
theorem any_of_gen {ops : List Oper} {okp : Nat → Nat → Bool} (Ch : List Nat → Env → List Blk → Prop) (hok : drawOkG okp ops = true) (hnil : ∀ e s, Ch [] e s → AWp c k e s)
    (hfr : ∀ l i r e s, (∀ j ∈ l, okp j i = true) → Ch (l ++ i :: r) e s → Ch (i :: (l ++ r)) e s)
    (hst : ∀ i o r e s a w (Kc : Act → World → Prop), ops[i]? = some o → Ch (i :: r) e s → Sim c e s a w → (∀ e' s' a w, Ch r e' s' → Sim c e' s' a w → Kc a w) →
      if Region.wanted o (yielded ops.toArray a.tmps) then o.wp c.P a w Kc (WQ c k) else Kc (a.put o.dst undef) w) : ∀ (fuel : Nat) (listed : Array Bool) (l : List Nat) (e : Env) (s : List Blk) (a : Act) (w : World), listed.size = ops.length →
    l = (List.range ops.length).filter (fun i => !listed.getD i true) → l.length = fuel → (∀ i, listed.getD i true = true → ∀ j ∈ waits ops i, listed.getD j true = true) →
    Ch l e s → Sim c e s a w → wpAny c.P .any ops.toArray (WQ c k) fuel listed a w := by
  have hready : ∀ (listed : Array Bool) (i : Nat), i ∈ Region.ready .any ops.toArray listed ↔ i < ops.length ∧ listed.getD i true = false ∧ ∀ j ∈ waits ops i, listed.getD j false = true := by
    intro listed i
    unfold Region.ready
    simp only [List.mem_filter, List.mem_range, List.size_toArray, Bool.and_eq_true, Bool.not_eq_true']
    refine and_congr_right fun hi => and_congr_right fun _ => ?_
    have : ops[i]? = some ops[i] := by simp [hi]
    simp only [List.getElem?_toArray, this, Option.map_some, Option.getD_some, waits]
    rw [Array.all_eq_true_iff_forall_mem]
    constructor
    · intro h j hj
      simp only [List.mem_map, List.mem_filter, Array.mem_toList_iff] at hj
      obtain ⟨ed, ⟨h1, h2⟩, rfl⟩ := hj
      have := h ed h1
      simpa [h2] using this
    · intro h ed hed
      by_cases hb : Region.binds .any ed = true
      · have := h ed.on (by simp only [List.mem_map, List.mem_filter, Array.mem_toList_iff]; exact ⟨ed, ⟨hed, hb⟩, rfl⟩)
        simp [this]
      · simp [hb]
  have hback : ∀ i, i < ops.length → ∀ j ∈ waits ops i, j < i := by
    intro i hi j hj
    have := (List.all_eq_true.1 hok) i (by simpa using hi)
    simp only [Bool.and_eq_true] at this
    simpa using (List.all_eq_true.1 this.1) j hj
  intro fuel
  induction fuel with
  | zero =>
    intro listed l e s a w hsz hl hlen hcl hch hsim
    have hnil : l = [] := List.eq_nil_of_length_eq_zero hlen
    subst hnil
    refine ⟨?_, hnil _ _ hch a w hsim⟩
    apply List.eq_nil_iff_forall_not_mem.2
    intro i hi
    obtain ⟨h1, h2, _⟩ := (hready listed i).1 hi
    have : i ∈ (List.range ops.length).filter (fun i => !listed.getD i true) := List.mem_filter.2 ⟨by simpa using h1, by simp [h2]⟩
    rw [← hl] at this
    cases this
  | succ fuel ih =>
    intro listed l e s a w hsz hl hlen hcl hch hsim
    have hmem : ∀ i, i ∈ l ↔ i < ops.length ∧ listed.getD i true = false := by
      intro i; rw [hl]; simp [List.mem_filter]
    refine ⟨fun hr => ?_, fun i hi => ?_⟩
    · exfalso
      cases hq : l with
      | nil => rw [hq] at hlen; simp at hlen
      | cons i r =>
        have hil : i ∈ l := by rw [hq]; simp
        obtain ⟨h1, h2⟩ := (hmem i).1 hil
        have : i ∈ Region.ready .any ops.toArray listed := by
          refine (hready listed i).2 ⟨h1, h2, fun j hj => ?_⟩
          have hlt := hback i h1 j hj
          have hjn : j ∉ l := by
            intro hjl
            have hs : l.Pairwise (· < ·) := by rw [hl]; exact List.Pairwise.filter _ List.pairwise_lt_range
            rw [hq] at hs hjl
            rcases List.mem_cons.1 hjl with rfl | hjr
            · omega
            · have := (List.pairwise_cons.1 hs).1 j hjr; omega
          have hjlt : j < listed.size := by omega
          have := fun hf => hjn ((hmem j).2 ⟨by omega, hf⟩)
          cases hv : listed.getD j true with
          | true => simpa [Array.getD, hjlt] using hv
          | false => exact (this hv).elim
        rw [hr] at this
        cases this
    · obtain ⟨h1, h2, h3⟩ := (hready listed i).1 hi
      have hil : i ∈ l := (hmem i).2 ⟨h1, h2⟩
      obtain ⟨l1, l2, hsplit⟩ := List.append_of_mem hil
      have ho : ops.toArray[i]? = some ops[i] := by simp [h1]
      have hs : l.Pairwise (· < ·) := by rw [hl]; exact List.Pairwise.filter _ List.pairwise_lt_range
      have hapart : ∀ j ∈ l1, okp j i = true := by
        intro j hj
        have hjl : j ∈ l := by rw [hsplit]; simp [hj]
        obtain ⟨hj1, hj2⟩ := (hmem j).1 hjl
        have hji : j < i := by
          rw [hsplit] at hs
          exact (List.pairwise_append.1 hs).2.2 j hj i (by simp)
        have := (List.all_eq_true.1 hok) i (by simpa using h1)
        simp only [Bool.and_eq_true] at this
        have := (List.all_eq_true.1 this.2) j (by simpa using hji)
        simp only [Bool.or_eq_true] at this
        rcases this with h4 | h4
        · exact h4
        · exfalso
          have hm : j ∈ anc ops ops.length i := by simpa using h4
          have hw3 : ∀ j ∈ waits ops i, listed.getD j true = true := by
            intro j hj
            have h5 := h3 j hj
            have hjlt : j < listed.size := by have := hback i h1 j hj; omega
            simpa [Array.getD, hjlt] using h5
          have := anc_listed (L := fun j => listed.getD j true = true) hcl ops.length i hw3 j hm
          rw [this] at hj2
          cases hj2
      rw [hsplit] at hch
      have hfront := hfr l1 i l2 e s hapart hch
      have hlist : ∀ j, (listed.setIfInBounds i true).getD j true = if j = i then true else listed.getD j true := by
        intro j
        by_cases hj : j = i
        · subst hj
          have : j < listed.size := by omega
          simp [this]
        · rw [if_neg hj]
          simp [Array.getElem?_setIfInBounds_ne (Ne.symm hj)]
      have hnext : l1 ++ l2 = (List.range ops.length).filter (fun j => !(listed.setIfInBounds i true).getD j true) := by
        have e1 : (fun j => !(listed.setIfInBounds i true).getD j true) = fun j => (!listed.getD j true) && decide (j ≠ i) := by
          funext j
          rw [hlist]
          by_cases hj : j = i <;> simp [hj]
        have e2 : (List.range ops.length).filter (fun j => (!listed.getD j true) && decide (j ≠ i)) = l.filter (fun j => decide (j ≠ i)) := by
          rw [hl, List.filter_filter]
          congr 1
          funext j
          rw [Bool.and_comm]
        rw [e1, e2, hsplit]
        have hn : l.Nodup := hs.imp (fun h => Nat.ne_of_lt h)
        rw [hsplit] at hn
        have hn1 : i ∉ l1 := fun hh => (List.nodup_append.1 hn).2.2 i hh i (by simp) rfl
        have hn2 : i ∉ l2 := (List.nodup_cons.1 (List.nodup_append.1 hn).2.1).1
        simp only [List.filter_append, List.filter_cons]
        have f1 : ∀ x : List Nat, i ∉ x → x.filter (fun j => decide (j ≠ i)) = x := by
          intro x hx
          rw [List.filter_eq_self]
          intro y hy
          simp
          intro h; subst h; exact hx hy
        rw [f1 l1 hn1, f1 l2 hn2]
        simp
      have hgo : ∀ e' s' a w, Ch (l1 ++ l2) e' s' → Sim c e' s' a w → wpAny c.P .any ops.toArray (WQ c k) fuel (listed.setIfInBounds i true) a w := fun e' s' a' w' hrest hs' =>
        ih (listed.setIfInBounds i true) (l1 ++ l2) _ _ a' w' (by simpa using hsz) hnext (by rw [hsplit] at hlen; simp at hlen ⊢; omega) (fun j hj m hm => by
          rw [hlist] at hj ⊢
          by_cases hmi : m = i
          · simp [hmi]
          · rw [if_neg hmi]
            by_cases hji : j = i
            · subst hji
              have h5 := h3 m hm
              have hmlt : m < listed.size := by have := hback j h1 m hm; omega
              simpa [Array.getD, hmlt] using h5
            · rw [if_neg hji] at hj
              exact hcl j hj m hm) hrest hs'
      have hw := hst i ops[i] (l1 ++ l2) e s a w _ (by simp [h1]) hfront hsim hgo
      unfold wpOp
      rw [ho]
      simp only
      by_cases hwant : Region.wanted ops[i] (yielded ops.toArray a.tmps) = true
      · rw [if_pos hwant] at hw ⊢
        exact .inl hw
      · rw [if_neg hwant] at hw ⊢
        exact hw


/-- one operation -/
theorem chI_step {ops : List Oper} {im : List Nat} {id : Nat} (hdst : ∀ o ∈ ops, dOk c.fn.ntmps o.dst = true) (i : Nat) (o : Oper) (r : List Nat) (e : Env) (s : List Blk) (a : Act) (w : World) (Kc : Act → World → Prop) (ho : ops[i]? = some o)
    (x : ChI c ops.toArray im id (fun e s => AWp c k e s) (i :: r) e s) (hs : Sim c e s a w) (hK : ∀ e' s' a w, ChI c ops.toArray im id (fun e s => AWp c k e s) r e' s' → Sim c e' s' a w → Kc a w) :
    if Region.wanted o (yielded ops.toArray a.tmps) then o.wp c.P a w Kc (WQ c k) else Kc (a.put o.dst undef) w := by
  have ho' : ops.toArray[i]? = some o := by simpa using ho
  have hd := hdst o (List.mem_of_getElem? ho)
  simp only [ChI, ho'] at x
  cases hm : im.contains i with
  | false =>
    rw [hm] at x
    obtain ⟨_, cv, v, s', h2, h3⟩ := x
    exact does_wp hs hd h2 fun a w hs' => hK _ _ a w h3 hs'
  | true =>
    rw [hm] at x
    obtain ⟨hg, f, args, hx, blk, post, h3, h4, _, h6⟩ := x
    rw [if_pos (by simp [Region.wanted, hg])]
    obtain ⟨hh, ρ, hmm, hl, he, hdf, hsz, hX⟩ := hs
    have hsnd := xop_sound (P := c.P) (wr := false) (frz := true) (o := o) hmm he
    rw [hx] at hsnd
    obtain ⟨vs, hv, hr⟩ := hsnd
    unfold Oper.wp
    rw [hr h4.1]
    refine (h4.2 hh ρ s w vs h3 hmm hl hv).mono ?_
    rintro en w' ⟨u, r', b, h', ρ', rfl, hp, hm', hlt, rv⟩
    have he' : EnvOk h' ρ' (s.set id b) e a := fun t => (he t).mono hlt.hle hlt.keep
    exact hK _ _ _ _ (h6 r' b hp) ⟨h', ρ', hm', hl.trans hlt, he'.put (by rw [hsz]; exact hd) rv, by rw [put_defers']; exact hdf, by rw [put_size]; exact hsz, c.hx.later hmm hlt hX⟩

/-! ### the walk in the text's order -/
def rix (all r : List Oper) : Nat := all.length - r.length
def dck (b : Bool) (n id : Nat) (e : Env) (op : Op) : Prop := bif b then opOk n id e op = true else True
mutual
def dxi (c : Cx) (all : List Oper) (im : List Nat) (id : Nat) (k : List It) : Nat → List Oper → List AV → Env → List Blk → Prop
  | _, [], _, e, s => AWp c k e s
  | 0, _ :: _, _, _, _ => False
  | n + 1, o :: r, cs, e, s => bif im.contains (rix all (o :: r)) then
      (match o.guard, xop false true c.P e s o.op with
        | none, .call f args => ICall c f args id s (fun v s' => dxi c all im id k n r cs (put e o.dst v) s')
        | _, _ => False)
    else dck (reader o.op && !blind o.op) s.length id e o.op ∧ dxic c all im id k n (dgrd c all s o r cs e o.guard)
def dxic (c : Cx) (all : List Oper) (im : List Nat) (id : Nat) (k : List It) : Nat → Dn → Prop
  | n, .go r cs e s => dxi c all im id k n r cs e s
  | n, .two b r cs e r' cs' e' s => dbri c all im id k n b r cs e r' cs' e' s
  | n, .side p r cs e s => p ∧ dxi c all im id k n r cs e s
  | _, .fail => False
def dbri (c : Cx) (all : List Oper) (im : List Nat) (id : Nat) (k : List It) : Nat → Bool → List Oper → List AV → Env → List Oper → List AV → Env → List Blk → Prop
  | 0, _, _, _, _, _, _, _, _ => False
  | n + 1, b, r, cs, e, r', cs', e', s => (b = true → dxi c all im id k n r cs e s) ∧ (b = false → dxi c all im id k n r' cs' e' s)
end
theorem dbri_true {all : List Oper} {im : List Nat} {id n : Nat} {r cs e r' cs' e' s} : dbri c all im id k (n + 1) true r cs e r' cs' e' s = dxi c all im id k n r cs e s := by rw [dbri]; simp
theorem dbri_false {all : List Oper} {im : List Nat} {id n : Nat} {r cs e r' cs' e' s} : dbri c all im id k (n + 1) false r cs e r' cs' e' s = dxi c all im id k n r' cs' e' s := by rw [dbri]; simp

theorem dxi_op {all : List Oper} {im : List Nat} {id n : Nat} {o : Oper} {r : List Oper} {cs : List AV} (hm : im.contains (rix all (o :: r)) = false) (hg : o.guard = none) (h : dxi c all im id k n (o :: r) cs e s) :
    dck (reader o.op && !blind o.op) s.length id e o.op ∧ ∃ cv v n' cs' s', DoesOp c s o cv e v s' ∧ dxi c all im id k n' r cs' (put e o.dst v) s' := by
  cases n with
  | zero => rw [dxi] at h; exact h.elim
  | succ n =>
    rw [dxi, hm] at h
    simp only [cond_false] at h
    refine ⟨h.1, ?_⟩
    replace h := h.2
    rw [hg] at h
    unfold dgrd at h
    unfold DoesOp
    revert h
    cases xop false true c.P e s o.op with
    | ok u => intro h; simp only [dres, dxic] at h; exact ⟨.any, u, n, cs, s, ⟨rfl, rfl⟩, h⟩
    | side p u => intro h; simp only [dres, dxic] at h; exact ⟨.any, u, n, cs, s, ⟨h.1, rfl, rfl⟩, h.2⟩
    | sto p u s' => intro h; simp only [dres, dxic] at h; exact ⟨.any, u, n, cs, s', ⟨h.1.1, h.1.2, rfl, rfl⟩, h.2⟩
    | pick b x y =>
      intro h; simp only [dres, dxic] at h
      cases n with
      | zero => rw [dbri] at h; exact h.elim
      | succ n =>
      rw [dbri] at h
      refine ⟨.any, _, n, cs, s, ⟨rfl, rfl⟩, ?_⟩
      cases b with
      | true => exact h.1 rfl
      | false => exact h.2 rfl
    | call f args =>
      intro h; simp only [dres] at h
      cases cs with
      | nil => simp only [dcall, dxic] at h
      | cons cv cs => simp only [dcall, dxic] at h; exact ⟨cv, cv, n, cs, s, ⟨h.1.1, h.1.2, rfl, rfl⟩, h.2⟩
    | anyb p => intro h; simp only [dres, dxic] at h
    | stuck => intro h; simp only [dres, dxic] at h

theorem dxi_step {all : List Oper} {im : List Nat} {id n : Nat} {o : Oper} {r : List Oper} {cs : List AV} (hm : im.contains (rix all (o :: r)) = false) (h : dxi c all im id k n (o :: r) cs e s) :
    dck (reader o.op && !blind o.op) s.length id e o.op ∧ ∃ cv v n' cs' s', Does c all.toArray s o cv e v s' ∧ dxi c all im id k n' r cs' (put e o.dst v) s' := by
  cases hg : o.guard with
  | none =>
    obtain ⟨h0, cv, v, n', cs', s', h1, h2⟩ := dxi_op hm hg h
    exact ⟨h0, cv, v, n', cs', s', by unfold Does; rw [hg]; exact h1, h2⟩
  | some jw =>
    obtain ⟨j, want⟩ := jw
    cases n with
    | zero => rw [dxi] at h; exact h.elim
    | succ n =>
      rw [dxi, hm] at h
      simp only [cond_false] at h
      refine ⟨h.1, ?_⟩
      replace h := h.2
      rw [hg] at h
      unfold dgrd dyld at h
      cases hy : yldD want e all[j]? with
      | none => simp only [hy, dxic] at h
      | some b =>
        simp only [hy] at h
        have key : (b = want → ∃ n', dxi c all im id k n' ({ o with guard := none } :: r) cs e s) ∧ (b ≠ want → ∃ n', dxi c all im id k n' r cs (put e o.dst (.raw undef)) s) := by
          cases n with
          | zero => cases want <;> simp only [cond_true, cond_false, dxic, dbri] at h
          | succ n =>
            cases want <;> simp only [cond_true, cond_false, dxic, dbri] at h <;> cases b <;>
              first
              | exact ⟨fun _ => ⟨n, h.1 rfl⟩, fun hh => (hh rfl).elim⟩
              | exact ⟨fun _ => ⟨n, h.2 rfl⟩, fun hh => (hh rfl).elim⟩
              | exact ⟨fun hh => (by cases hh), fun _ => ⟨n, h.1 rfl⟩⟩
              | exact ⟨fun hh => (by cases hh), fun _ => ⟨n, h.2 rfl⟩⟩
        have hy' : yldD want e all.toArray[j]? = some b := by simpa using hy
        by_cases hb : b = want
        · obtain ⟨n1, h1⟩ := key.1 hb
          obtain ⟨_, cv, v, n', cs', s', h1, h2⟩ := dxi_op (o := { o with guard := none }) (by exact hm) rfl h1
          refine ⟨cv, v, n', cs', s', ?_, h2⟩
          unfold Does
          rw [hg]
          simp only [hy']
          exact .inl ⟨hb, h1⟩
        · obtain ⟨n1, h1⟩ := key.2 hb
          refine ⟨.any, .raw undef, n1, cs, s, ?_, h1⟩
          unfold Does
          rw [hg]
          simp only [hy']
          exact .inr ⟨hb, trivial, trivial⟩

theorem chI_of_dxi {all : List Oper} {im : List Nat} {id : Nat} : ∀ {r : List Oper} {m n : Nat} {cs : List AV} {e : Env} {s : List Blk}, (∀ (j : Nat), r[j]? = all[m + j]?) → all.length = m + r.length → dxi c all im id k n r cs e s → ChI c all.toArray im id (fun e s => AWp c k e s) (List.range' m r.length) e s
  | [], m, n, cs, e, s, _, _, h => by
    rw [dxi] at h
    exact h
  | o :: r, m, n, cs, e, s, hr, hlen, h => by
    have h0 : all.toArray[m]? = some o := by have := hr 0; simpa using this.symm
    have hix : rix all (o :: r) = m := by unfold rix; omega
    have hr' : ∀ j, r[j]? = all[m + 1 + j]? := fun j => by have := hr (j + 1); simpa [Nat.add_assoc, Nat.add_comm 1 j] using this
    simp only [List.length_cons, List.range'_succ, ChI, h0]
    cases hm : im.contains m with
    | true =>
      simp only [cond_true]
      cases n with
      | zero => rw [dxi] at h; exact h.elim
      | succ n =>
        rw [dxi, hix, hm] at h
        simp only [cond_true] at h
        split at h
        · rename_i f args hg hx
          obtain ⟨blk, post, h3, h4, h5, h6⟩ := h
          exact ⟨hg, f, args, hx, blk, post, h3, h4, h5, fun u b hp => chI_of_dxi hr' (by simp at hlen; omega) (h6 u b hp)⟩
        · exact h.elim
    | false =>
      simp only [cond_false]
      obtain ⟨hd, cv, v, n', cs', s', h1, h2⟩ := dxi_step (by rw [hix]; exact hm) h
      refine ⟨fun hr hb => ?_, cv, v, s', h1, chI_of_dxi hr' (by simp at hlen; omega) h2⟩
      unfold dck at hd
      simpa [hr, hb] using hd

/-- A STATEMENT WHOSE ORDER IS OPEN, in which the calls with the numbers 'im' change the block 'id'. -/
theorem adrawI (im : List Nat) (bid : Nat) (cs : List AV) {id : Nat} {ops : List Oper} (hm : c.P.follows .mixedOrders = true) (hok : drawOkG (okI ops im) ops = true) {N : Nat} (hN : c.fn.ntmps = N) (hdst : ops.all (fun o => dOk N o.dst) = true) (n : Nat)
    (h : dxi c ops im bid k n ops cs e s) : AWp c (.code (.region id ops.toArray true) :: k) e s := by
  intro a w hsim
  have hch := chI_of_dxi (m := 0) (by intro j; simp) (by simp) h
  rw [← List.range_eq_range'] at hch
  refine wp_region_any hm ?_
  have hsim' : Sim c e s a { w with drawn := w.drawn + 1 } := by
    obtain ⟨hh, ρ, hmm, hl, he, hdf, hsz, hX⟩ := hsim
    have sm : Same w { w with drawn := w.drawn + 1 } := Same.drew w
    exact ⟨hh, ρ, hmm.same sm, hl.trans (Later.same sm), he, hdf, hsz, c.hx.later hmm (Later.same sm) hX⟩
  have hd : ∀ o ∈ ops, dOk c.fn.ntmps o.dst = true := fun o ho => by rw [hN]; exact (List.all_eq_true.1 hdst) o ho
  refine any_of_gen (okp := okI ops im) (ChI c ops.toArray im bid (fun e s => AWp c k e s)) hok (fun e s x => x) (fun l i r e s hj x => ChI.front rfl AWp.K l i r e s hj x) (fun i o r e s a w Kc ho x hs hK => chI_step hd i o r e s a w Kc ho x hs hK)
    ops.length (Array.replicate ops.length false) (List.range ops.length) e s a _ (by simp) ?_ (by simp) ?_ hch hsim'
  · symm
    rw [List.filter_eq_self]
    intro i hi
    simp at hi
    simp [hi]
  · intro i hi j hj
    exfalso
    by_cases h1 : i < ops.length
    · simp [h1] at hi
    · unfold waits at hj
      have : ops[i]? = none := by simp; omega
      simp [this] at hj

/-- a method's call in it -/
theorem icall {f : FuncId} {es : Nat} {agg : AV} {args : List AV} {post : AV → AV → Prop} {K : AV → List Blk → Prop} (hc : Mc c.P f es agg args post) (ha : args.all nr1 = true) (hg : nr1 agg = true) {id : Nat} (hid : s[id]? = some (.arr es [agg]))
    (hin : ∃ r agg', post r agg') (hk : ∀ r agg', post r agg' → K r (s.set id (.arr es [agg']))) : ICall c f (.ptr id 1 0 0 :: args) id s K := by
  refine ⟨_, fun r b => ∃ agg', b = .arr es [agg'] ∧ post r agg', hid, ⟨hc.1, fun h ρ s w vs hs m l r => ?_⟩, ?_, ?_⟩
  · refine ((hc.ct ha hg hs).2 h ρ w vs m r).mono ?_
    rintro en w' ⟨v, r, s', h', ρ', rfl, ⟨agg', hp, _, rfl⟩, m', l', rv⟩
    exact ⟨v, r, _, h', ρ', rfl, ⟨agg', rfl, hp⟩, m', l', rv⟩
  · obtain ⟨r, agg', hp⟩ := hin
    exact ⟨r, _, agg', rfl, hp⟩
  · rintro r b ⟨agg', rfl, hp⟩
    exact hk r agg' hp
end
end Go.Av
/- Statements whose order is open and which put into several maps of one's own. Own work of this seat. -/
set_option linter.unusedSimpArgs false
set_option linter.unusedVariables false
namespace Go.Av
open Go Go.RowKit

/-- an operation that puts into the map 'd' -/
def putD (d : Nat) (e : Env) (o : Oper) : Prop := match o.guard, o.op with
  | none, .mapUpdate _ m _ _ => ev e m = .mp d
  | _, _ => False
/-- what is asked of each operation: those listed put into their maps; what reads looks at none of these -/
def pck (ids : List (Nat × Nat)) (i : Nat) (e : Env) (s : List Blk) (o : Oper) : Prop :=
  (match ids.lookup i with
    | some d => putD d e o
    | none => True) ∧ (bif reader o.op && !blind o.op then ids.all (fun p => opOk s.length p.2 e o.op) = true else True)

/-- a put changes its map alone, and looks at no other -/
theorem put_does {c : Cx} {ops : Array Oper} {s s1 : List Blk} {o : Oper} {cv v : AV} {e : Env} {t : TypeId} {m k u : Operand} {d : Nat} (hg : o.guard = none) (ho : o.op = .mapUpdate t m k u) (hm : ev e m = .mp d) (h : Does c ops s o cv e v s1) :
    v = .raw undef ∧ ∃ b, s1 = s.set d b ∧ ∀ s2 cv2, s2.getD d .dead = s.getD d .dead → Does c ops s2 o cv2 e v (s2.set d b) := by
  unfold Does at h
  rw [hg] at h
  simp only at h
  unfold DoesOp at h
  rw [ho] at h
  simp only [xop, hm] at h
  have hx : ∀ s2 : List Blk, s2.getD d .dead = s.getD d .dead → ∀ p w s3, xmput c.P s (.mp d) (ev e k) (ev e u) (c.P.underlying t) = .sto p w s3 → p ∧ w = .raw undef ∧ ∃ b, s3 = s.set d b ∧ (s.getD d .dead = .dead → False) ∧ xmput c.P s2 (.mp d) (ev e k) (ev e u) (c.P.underlying t) = .sto p w (s2.set d b) := by
    intro s2 hs p w s3
    cases ht : c.P.underlying t with
    | none => intro hq; cases hq
    | some td =>
      cases td <;> try (intro hq; cases hq; done)
      rename_i kt vt
      simp only [xmput]
      cases hk : c.P.underlying kt with
      | none => intro hq; cases hq
      | some dk =>
        simp only
        rw [hs]
        cases hb : s.getD d .dead with
        | arr e l => intro hq; cases hq
        | dead => intro hq; cases hq
        | mp es =>
          simp only [xmputB]
          cases isKey dk (ev e k) with
          | false => intro hq; cases hq
          | true =>
            simp only [cond_true]
            cases mfind dk (ev e k) es 0 with
            | none => intro hq; cases hq
            | some o =>
              cases o with
              | none =>
                simp only [xmputF, Res.sto.injEq]
                rintro ⟨rfl, rfl, rfl⟩
                exact ⟨trivial, rfl, _, rfl, by simp, rfl, rfl, rfl⟩
              | some y =>
                obtain ⟨i, z⟩ := y
                simp only [xmputF, Res.sto.injEq]
                rintro ⟨rfl, rfl, rfl⟩
                exact ⟨trivial, rfl, _, rfl, by simp, rfl, rfl, rfl⟩
  have hns : ∀ q, xmput c.P s (.mp d) (ev e k) (ev e u) (c.P.underlying t) = q → (match q with | .sto _ _ _ => True | .stuck => True | _ => False) := by
    intro q hq
    subst hq
    cases ht : c.P.underlying t with
    | none => trivial
    | some td =>
      cases td <;> try trivial
      rename_i kt vt
      simp only [xmput]
      cases hk : c.P.underlying kt with
      | none => trivial
      | some dk =>
        simp only
        cases hb : s.getD d .dead with
        | arr e l => trivial
        | dead => trivial
        | mp es =>
          simp only [xmputB]
          cases isKey dk (ev e k) with
          | false => trivial
          | true =>
            simp only [cond_true]
            cases mfind dk (ev e k) es 0 with
            | none => trivial
            | some o => cases o <;> trivial
  revert h
  cases hq : xmput c.P s (.mp d) (ev e k) (ev e u) (c.P.underlying t) with
  | sto p w s3 =>
    intro h
    obtain ⟨hc, hp, rfl, rfl⟩ := h
    obtain ⟨_, hw, b, hb, hnd, _⟩ := hx s rfl _ _ _ hq
    refine ⟨hw, b, hb, fun s2 cv2 hs => ?_⟩
    obtain ⟨_, _, b2, hb2, _, h2⟩ := hx s2 hs _ _ _ hq
    have this : s2.set d b2 = s2.set d b := by
      have hd : d < s.length := by
        rcases Nat.lt_or_ge d s.length with h3 | h3
        · exact h3
        · exact (hnd (by simp [List.getD, List.getElem?_eq_none h3])).elim
      have e1 : (s.set d b)[d]? = (s.set d b2)[d]? := by rw [← hb, ← hb2]
      simp [hd] at e1
      rw [e1]
    unfold Does
    rw [hg]
    simp only
    unfold DoesOp
    rw [ho]
    simp only [xop, hm, h2, this]
    exact ⟨rfl, hp, trivial, trivial⟩
  | ok w => exact (hns _ hq).elim
  | side p w => exact (hns _ hq).elim
  | pick b x y => exact (hns _ hq).elim
  | call f args => exact (hns _ hq).elim
  | anyb p => exact (hns _ hq).elim
  | stuck => intro h; exact h.elim

theorem putD_op {d : Nat} {e : Env} {o : Oper} (h : putD d e o) : o.guard = none ∧ ∃ t m k v, o.op = .mapUpdate t m k v ∧ ev e m = .mp d := by
  unfold putD at h
  split at h
  · rename_i t m k v hg ho
    exact ⟨hg, t, m, k, v, ho, h⟩
  · exact h.elim
theorem pck_agree {ids : List (Nat × Nat)} {i : Nat} {e e' : Env} {s s' : List Blk} {o : Oper} (h : ∀ x ∈ o.op.operands, ev e x = ev e' x) (hs : s.length = s'.length) (hp : pck ids i e s o) : pck ids i e' s' o := by
  obtain ⟨h1, h2⟩ := hp
  refine ⟨?_, ?_⟩
  · cases hl : ids.lookup i with
    | none => trivial
    | some d =>
      rw [hl] at h1
      simp only at h1 ⊢
      unfold putD at h1 ⊢
      cases hg : o.guard with
      | some x => rw [hg] at h1; exact h1.elim
      | none =>
        rw [hg] at h1
        cases ho : o.op <;> rw [ho] at h1 <;> simp only at h1 ⊢
        rw [← h _ (by rw [ho]; simp [Op.operands])]
        exact h1
  · cases hb : (reader o.op && !blind o.op) with
    | false => trivial
    | true =>
      rw [hb] at h2
      simp only [cond_true] at h2 ⊢
      rw [List.all_eq_true] at h2 ⊢
      intro p hp
      rw [← opOk_agree h, ← hs]
      exact h2 p hp
theorem pck_ok {ids : List (Nat × Nat)} {i : Nat} {e : Env} {s : List Blk} {o : Oper} (hp : pck ids i e s o) (hr : reader o.op = true) (hb : blind o.op = false) {j d : Nat} (hj : ids.lookup j = some d) : opOk s.length d e o.op = true := by
  have h2 := hp.2
  rw [hr, hb] at h2
  simp only [Bool.not_false, Bool.and_self, cond_true, List.all_eq_true] at h2
  have : ∀ {l : List (Nat × Nat)}, l.lookup j = some d → (j, d) ∈ l := by
    intro l
    induction l with
    | nil => intro h; simp at h
    | cons p r ih =>
      intro h
      rw [List.lookup_cons] at h
      split at h
      · rename_i hq
        have hq : j = p.1 := by simpa using hq
        simp only [Option.some.injEq] at h
        subst hq; subst h
        exact List.mem_cons_self
      · exact List.mem_cons_of_mem _ (ih h)
  exact h2 _ (this hj)
theorem pck_put {ids : List (Nat × Nat)} {i d : Nat} {e : Env} {s : List Blk} {o : Oper} (hp : pck ids i e s o) (hl : ids.lookup i = some d) : putD d e o := by
  have := hp.1
  rw [hl] at this
  exact this

def ChP (c : Cx) (ops : Array Oper) (ids : List (Nat × Nat)) (K : Env → List Blk → Prop) : List Nat → Env → List Blk → Prop
  | [], e, s => K e s
  | i :: r, e, s => match ops[i]? with
    | some o => pck ids i e s o ∧ ∃ cv v s', Does c ops s o cv e v s' ∧ ChP c ops ids K r (put e o.dst v) s'
    | none => False

/-- may i pass the earlier j? -/
def okPu (ops : List Oper) (ids : List (Nat × Nat)) (j i : Nat) : Bool := match ops[j]?, ops[i]? with
  | some oj, some oi => oj.apart ops.toArray oi && (together oj oi || (match ids.lookup j, ids.lookup i with
    | some a, some b => a != b
    | some _, none => reader oi.op
    | none, some _ => reader oj.op
    | none, none => false))
  | _, _ => false

section
variable {cx : Cx} {ops : Array Oper} {K : Env → List Blk → Prop} {ids : List (Nat × Nat)}
theorem ChP.congr (hK : ∀ e e' s, Eqv e e' → K e s → K e' s) : ∀ {l : List Nat} {e e' : Env} {s : List Blk}, Eqv e e' → ChP cx ops ids K l e s → ChP cx ops ids K l e' s
  | [], e, e', s, h, c => hK e e' s h c
  | i :: r, e, e', s, h, c => by
    unfold ChP at c ⊢
    split at c
    · rename_i o ho
      obtain ⟨h0, cv, v, s', h1, h2⟩ := c
      exact ⟨pck_agree (fun x _ => ev_agree fun t _ => h t) rfl h0, cv, v, s', h1.agree fun t _ => h t, ChP.congr hK (h.put _ _) h2⟩
    · exact c.elim
theorem ChP.swap {opl : List Oper} (hops : ops = opl.toArray) (hK : ∀ e e' s, Eqv e e' → K e s → K e' s) {i j : Nat} {r : List Nat} (hok : okPu opl ids j i = true) {e : Env} {s : List Blk} (c : ChP cx ops ids K (j :: i :: r) e s) :
    ChP cx ops ids K (i :: j :: r) e s := by
  unfold okPu at hok
  split at hok
  rotate_left
  · cases hok
  rename_i oj oi hj' hi'
  have hj : ops[j]? = some oj := by rw [hops]; simpa using hj'
  have hi : ops[i]? = some oi := by rw [hops]; simpa using hi'
  simp only [Bool.and_eq_true, Bool.or_eq_true] at hok
  obtain ⟨ha, hok⟩ := hok
  rw [← hops] at ha
  obtain ⟨a1, a2, a3⟩ := Oper.apart_spec ha
  simp only [ChP, hj, hi] at c ⊢
  obtain ⟨pj, cv, v, s1, h1, pi, cu, u, s2, h2, h3⟩ := c
  have gi : ∀ (e : Env) (v : AV), Agree ops oi (put e oj.dst v) e := fun e v t ht => by
    rw [get_put, if_neg]; intro h; exact a1 t h ht
  have gj : ∀ (e : Env) (v : AV), Agree ops oj e (put e oi.dst v) := fun e v t ht => by
    rw [get_put, if_neg]; intro h; exact a3 t h ht
  have h2' : Does cx ops s1 oi cu e u s2 := h2.agree (gi e v)
  have h1' : ∀ {z z'}, Does cx ops z oj cv e v z' → Does cx ops z oj cv (put e oi.dst u) v z' := fun hd => hd.agree (gj e u)
  have h3' := ChP.congr hK (put_swap a2) h3
  have pi' : ∀ s', s1.length = s'.length → pck ids i e s' oi := fun s' hs => pck_agree (agree_ops (gi e v)) hs pi
  have pj' : ∀ s', s.length = s'.length → pck ids j (put e oi.dst u) s' oj := fun s' hs => pck_agree (agree_ops (gj e u)) hs pj
  rcases hok with hok | hok
  · simp only [together, Bool.or_eq_true, Bool.and_eq_true] at hok
    have blind_free : ∀ {o : Oper} {k : Nat} {e : Env} {s s' : List Blk}, blind o.op = true → pck ids k e s o → pck ids k e s' o := fun hb hp => ⟨hp.1, by simp [hb]⟩
    rcases hok with (⟨c1, c2⟩ | c1) | c1
    · have e1 := h1.calm c1
      subst e1
      have e2 := h2.calm c2
      subst e2
      exact ⟨pi' _ rfl, cu, u, _, h2', pj' _ rfl, cv, v, _, h1' h1, h3'⟩
    · have e1 := h1.calm (blind_calm c1)
      subst e1
      exact ⟨pi' _ rfl, cu, u, _, h2', blind_free c1 (pj' _ rfl), cv, v, _, h1' (h1.blind c1), h3'⟩
    · have e2 := h2.calm (blind_calm c1)
      subst e2
      exact ⟨blind_free c1 (pi' _ rfl), cu, u, _, h2'.blind c1, pj' _ rfl, cv, v, _, h1' h1, h3'⟩
  split at hok
  · rename_i a b hla hlb
    have hab : a ≠ b := by simpa using hok
    obtain ⟨gj0, tj, mj, kj, vj, oj1, ej⟩ := putD_op (pck_put pj hla)
    obtain ⟨gi0, ti, mi, ki, vi, oi1, ei⟩ := putD_op (pck_put (pi' _ rfl) hlb)
    obtain ⟨hv, bj, rfl, hdj⟩ := put_does gj0 oj1 ej h1
    obtain ⟨hu, bi, rfl, hdi⟩ := put_does gi0 oi1 ei h2'
    have n1 : (s.set b bi).getD a .dead = s.getD a .dead := by simp only [List.getD, List.getElem?_set_ne (Ne.symm hab)]
    have n2 : s.getD b .dead = (s.set a bj).getD b .dead := by simp only [List.getD, List.getElem?_set_ne hab]
    refine ⟨pi' _ (by simp), cu, u, _, hdi s cu n2, pj' _ (by simp), cv, v, _, h1' (hdj _ cv n1), ?_⟩
    rw [List.set_comm _ _ (Ne.symm hab)]
    exact h3'
  · rename_i a hla hlb
    obtain ⟨gj0, tj, mj, kj, vj, oj1, ej⟩ := putD_op (pck_put pj hla)
    obtain ⟨hv, bj, rfl, hdj⟩ := put_does gj0 oj1 ej h1
    have ok0 : blind oi.op = false → opOk s.length a e oi.op = true := fun hb => pck_ok (pi' s (by simp)) hok hb hla
    obtain ⟨e1, ds⟩ := does_reader hok ok0 ((Agr.set (s := s) (id := a) bj).symm) h2'
    subst e1
    exact ⟨pi' _ (by simp), cu, u, _, ds, pj' _ rfl, cv, v, _, h1' h1, h3'⟩
  · rename_i b hla hlb
    obtain ⟨gi0, ti, mi, ki, vi, oi1, ei⟩ := putD_op (pck_put (pi' _ rfl) hlb)
    have ok0 : blind oj.op = false → opOk s.length b e oj.op = true := fun hb => pck_ok pj hok hb hlb
    obtain ⟨rfl, _⟩ := does_reader hok ok0 (Agr.set (id := b) .dead) h1
    obtain ⟨hu, bi, rfl, hdi⟩ := put_does gi0 oi1 ei h2'
    have hs := (does_reader hok ok0 (Agr.set (id := b) bi) h1).2
    exact ⟨pi' _ rfl, cu, u, _, h2', pj' _ (by simp), cv, v, _, h1' hs, h3'⟩
  · cases hok
theorem ChP.front {opl : List Oper} (hops : ops = opl.toArray) (hK : ∀ e e' s, Eqv e e' → K e s → K e' s) {i : Nat} {r : List Nat} : ∀ {l : List Nat} {e : Env} {s : List Blk}, (∀ j ∈ l, okPu opl ids j i = true) →
    ChP cx ops ids K (l ++ i :: r) e s → ChP cx ops ids K (i :: (l ++ r)) e s
  | [], _, _, _, c => c
  | j :: l, e, s, h, c => by
    refine ChP.swap hops hK (h j (by simp)) ?_
    simp only [List.cons_append, ChP] at c ⊢
    split at c
    · rename_i o ho
      obtain ⟨h0, cv, v, s', h1, h2⟩ := c
      exact ⟨h0, cv, v, s', h1, ChP.front hops hK (fun k hk => h k (by simp [hk])) h2⟩
    · exact c.elim
end

section
variable {c : Cx} {k : List It} {e : Env} {s : List Blk}
/-! ### the walk in the text's order, with something asked of each operation -/
mutual
def dxg (c : Cx) (all : List Oper) (ck : Nat → Env → List Blk → Oper → Prop) (k : List It) : Nat → List Oper → List AV → Env → List Blk → Prop
  | _, [], _, e, s => AWp c k e s
  | 0, _ :: _, _, _, _ => False
  | n + 1, o :: r, cs, e, s => ck (rix all (o :: r)) e s o ∧ dxgc c all ck k n (dgrd c all s o r cs e o.guard)
def dxgc (c : Cx) (all : List Oper) (ck : Nat → Env → List Blk → Oper → Prop) (k : List It) : Nat → Dn → Prop
  | n, .go r cs e s => dxg c all ck k n r cs e s
  | n, .two b r cs e r' cs' e' s => dbrg c all ck k n b r cs e r' cs' e' s
  | n, .side p r cs e s => p ∧ dxg c all ck k n r cs e s
  | _, .fail => False
def dbrg (c : Cx) (all : List Oper) (ck : Nat → Env → List Blk → Oper → Prop) (k : List It) : Nat → Bool → List Oper → List AV → Env → List Oper → List AV → Env → List Blk → Prop
  | 0, _, _, _, _, _, _, _, _ => False
  | n + 1, b, r, cs, e, r', cs', e', s => (b = true → dxg c all ck k n r cs e s) ∧ (b = false → dxg c all ck k n r' cs' e' s)
end
theorem dbrg_true {all : List Oper} {ck : Nat → Env → List Blk → Oper → Prop} {n : Nat} {r cs e r' cs' e' s} : dbrg c all ck k (n + 1) true r cs e r' cs' e' s = dxg c all ck k n r cs e s := by rw [dbrg]; simp
theorem dbrg_false {all : List Oper} {ck : Nat → Env → List Blk → Oper → Prop} {n : Nat} {r cs e r' cs' e' s} : dbrg c all ck k (n + 1) false r cs e r' cs' e' s = dxg c all ck k n r' cs' e' s := by rw [dbrg]; simp

end
end Go.Av
/- Closed facts of this seat's program, written by a program of this seat: which functions have a body; cells, bytes and zero values of types. -/
set_option maxRecDepth 100000
set_option linter.unusedVariables false
namespace Go.Proofs.YtpjbbpilgfihbaaGreatDoor
open Go Go.Av Go.RowKit
theorem mixed : Tryz.prog.follows .mixedOrders = true := by kernel_rfl
theorem hB4 : hasBody Tryz.prog 4 = true := by kernel_rfl
theorem hB9 : hasBody Tryz.prog 9 = true := by kernel_rfl
theorem hB12 : hasBody Tryz.prog 12 = true := by kernel_rfl
theorem hB13 : hasBody Tryz.prog 13 = true := by kernel_rfl
theorem hB14 : hasBody Tryz.prog 14 = true := by kernel_rfl
theorem hB15 : hasBody Tryz.prog 15 = true := by kernel_rfl
theorem hB19 : hasBody Tryz.prog 19 = true := by kernel_rfl
theorem hB23 : hasBody Tryz.prog 23 = true := by kernel_rfl
theorem hB24 : hasBody Tryz.prog 24 = true := by kernel_rfl
theorem hB27 : hasBody Tryz.prog 27 = true := by kernel_rfl
theorem hB28 : hasBody Tryz.prog 28 = true := by kernel_rfl
theorem hB29 : hasBody Tryz.prog 29 = true := by kernel_rfl
theorem hB30 : hasBody Tryz.prog 30 = true := by kernel_rfl
theorem hB31 : hasBody Tryz.prog 31 = true := by kernel_rfl
theorem hB32 : hasBody Tryz.prog 32 = true := by kernel_rfl
theorem hB33 : hasBody Tryz.prog 33 = true := by kernel_rfl
theorem hB34 : hasBody Tryz.prog 34 = true := by kernel_rfl
theorem hB35 : hasBody Tryz.prog 35 = true := by kernel_rfl
theorem hB36 : hasBody Tryz.prog 36 = true := by kernel_rfl
theorem hB37 : hasBody Tryz.prog 37 = true := by kernel_rfl
theorem hB38 : hasBody Tryz.prog 38 = true := by kernel_rfl
theorem hB39 : hasBody Tryz.prog 39 = true := by kernel_rfl
theorem hB40 : hasBody Tryz.prog 40 = true := by kernel_rfl
theorem hB41 : hasBody Tryz.prog 41 = true := by kernel_rfl
theorem hB42 : hasBody Tryz.prog 42 = true := by kernel_rfl
theorem hB43 : hasBody Tryz.prog 43 = true := by kernel_rfl
theorem hB44 : hasBody Tryz.prog 44 = true := by kernel_rfl
theorem hB45 : hasBody Tryz.prog 45 = true := by kernel_rfl
theorem hB46 : hasBody Tryz.prog 46 = true := by kernel_rfl
theorem hB51 : hasBody Tryz.prog 51 = true := by kernel_rfl
theorem hB53 : hasBody Tryz.prog 53 = true := by kernel_rfl
theorem hB54 : hasBody Tryz.prog 54 = true := by kernel_rfl
theorem hB55 : hasBody Tryz.prog 55 = true := by kernel_rfl
theorem hB56 : hasBody Tryz.prog 56 = true := by kernel_rfl
theorem hB58 : hasBody Tryz.prog 58 = true := by kernel_rfl
theorem hB59 : hasBody Tryz.prog 59 = true := by kernel_rfl
theorem hB60 : hasBody Tryz.prog 60 = true := by kernel_rfl
theorem hB62 : hasBody Tryz.prog 62 = true := by kernel_rfl
theorem hB63 : hasBody Tryz.prog 63 = true := by kernel_rfl
theorem hB64 : hasBody Tryz.prog 64 = true := by kernel_rfl
theorem hB65 : hasBody Tryz.prog 65 = true := by kernel_rfl
theorem hB66 : hasBody Tryz.prog 66 = true := by kernel_rfl
theorem hB67 : hasBody Tryz.prog 67 = true := by kernel_rfl
theorem hB68 : hasBody Tryz.prog 68 = true := by kernel_rfl
theorem hB69 : hasBody Tryz.prog 69 = true := by kernel_rfl
theorem hB70 : hasBody Tryz.prog 70 = true := by kernel_rfl
theorem hB71 : hasBody Tryz.prog 71 = true := by kernel_rfl
theorem hB72 : hasBody Tryz.prog 72 = true := by kernel_rfl
theorem hB73 : hasBody Tryz.prog 73 = true := by kernel_rfl
theorem hB74 : hasBody Tryz.prog 74 = true := by kernel_rfl
theorem hB75 : hasBody Tryz.prog 75 = true := by kernel_rfl
theorem hB76 : hasBody Tryz.prog 76 = true := by kernel_rfl
theorem hB77 : hasBody Tryz.prog 77 = true := by kernel_rfl
theorem hB78 : hasBody Tryz.prog 78 = true := by kernel_rfl
theorem hB79 : hasBody Tryz.prog 79 = true := by kernel_rfl
theorem hB80 : hasBody Tryz.prog 80 = true := by kernel_rfl
theorem hB81 : hasBody Tryz.prog 81 = true := by kernel_rfl
theorem hB82 : hasBody Tryz.prog 82 = true := by kernel_rfl
theorem hB88 : hasBody Tryz.prog 88 = true := by kernel_rfl
theorem hB89 : hasBody Tryz.prog 89 = true := by kernel_rfl
theorem hB93 : hasBody Tryz.prog 93 = true := by kernel_rfl
theorem hB96 : hasBody Tryz.prog 96 = true := by kernel_rfl
theorem hB98 : hasBody Tryz.prog 98 = true := by kernel_rfl
theorem hB99 : hasBody Tryz.prog 99 = true := by kernel_rfl
theorem hB100 : hasBody Tryz.prog 100 = true := by kernel_rfl
theorem hB102 : hasBody Tryz.prog 102 = true := by kernel_rfl
theorem hB103 : hasBody Tryz.prog 103 = true := by kernel_rfl
theorem hB104 : hasBody Tryz.prog 104 = true := by kernel_rfl
theorem hB105 : hasBody Tryz.prog 105 = true := by kernel_rfl
theorem hB106 : hasBody Tryz.prog 106 = true := by kernel_rfl
theorem hB107 : hasBody Tryz.prog 107 = true := by kernel_rfl
theorem hB115 : hasBody Tryz.prog 115 = true := by kernel_rfl
theorem hB116 : hasBody Tryz.prog 116 = true := by kernel_rfl
theorem hB117 : hasBody Tryz.prog 117 = true := by kernel_rfl
theorem hB118 : hasBody Tryz.prog 118 = true := by kernel_rfl
theorem hB119 : hasBody Tryz.prog 119 = true := by kernel_rfl
theorem hB120 : hasBody Tryz.prog 120 = true := by kernel_rfl
theorem hB138 : hasBody Tryz.prog 138 = true := by kernel_rfl
theorem hB139 : hasBody Tryz.prog 139 = true := by kernel_rfl
theorem hB140 : hasBody Tryz.prog 140 = true := by kernel_rfl
theorem hB141 : hasBody Tryz.prog 141 = true := by kernel_rfl
theorem hB142 : hasBody Tryz.prog 142 = true := by kernel_rfl
theorem hB143 : hasBody Tryz.prog 143 = true := by kernel_rfl
theorem hB144 : hasBody Tryz.prog 144 = true := by kernel_rfl
theorem hB145 : hasBody Tryz.prog 145 = true := by kernel_rfl
theorem hB146 : hasBody Tryz.prog 146 = true := by kernel_rfl
theorem hB147 : hasBody Tryz.prog 147 = true := by kernel_rfl
theorem hB152 : hasBody Tryz.prog 152 = true := by kernel_rfl
theorem hB169 : hasBody Tryz.prog 169 = true := by kernel_rfl
theorem hB170 : hasBody Tryz.prog 170 = true := by kernel_rfl
theorem hB171 : hasBody Tryz.prog 171 = true := by kernel_rfl
theorem ts2 : tsize Tryz.prog 2 = 1 := by kernel_rfl
theorem tb2 : tbytes Tryz.prog 2 = 8 := by kernel_rfl
theorem zl2 : zleaf Tryz.prog 2 = true := by kernel_rfl
theorem za2 : zav Tryz.prog 2 = [.int .i64 0] := by kernel_rfl
theorem ts3 : tsize Tryz.prog 3 = 1 := by kernel_rfl
theorem tb3 : tbytes Tryz.prog 3 = 8 := by kernel_rfl
theorem zl3 : zleaf Tryz.prog 3 = true := by kernel_rfl
theorem za3 : zav Tryz.prog 3 = [.int .i64 0] := by kernel_rfl
theorem ts4 : tsize Tryz.prog 4 = 1 := by kernel_rfl
theorem tb4 : tbytes Tryz.prog 4 = 1 := by kernel_rfl
theorem zl4 : zleaf Tryz.prog 4 = true := by kernel_rfl
theorem za4 : zav Tryz.prog 4 = [.bool false] := by kernel_rfl
theorem ts5 : tsize Tryz.prog 5 = 1 := by kernel_rfl
theorem tb5 : tbytes Tryz.prog 5 = 1 := by kernel_rfl
theorem zl5 : zleaf Tryz.prog 5 = true := by kernel_rfl
theorem za5 : zav Tryz.prog 5 = [.int .u8 0] := by kernel_rfl
theorem ts6 : tsize Tryz.prog 6 = 1 := by kernel_rfl
theorem tb6 : tbytes Tryz.prog 6 = 1 := by kernel_rfl
theorem zl6 : zleaf Tryz.prog 6 = true := by kernel_rfl
theorem za6 : zav Tryz.prog 6 = [.int .u8 0] := by kernel_rfl
theorem ts7 : tsize Tryz.prog 7 = 4 := by kernel_rfl
theorem tb7 : tbytes Tryz.prog 7 = 24 := by kernel_rfl
theorem za7 : zav Tryz.prog 7 = [.int .i64 0, .int .i64 0, .bool false, .int .u8 0] := by kernel_rfl
theorem ts8 : tsize Tryz.prog 8 = 4 := by kernel_rfl
theorem tb8 : tbytes Tryz.prog 8 = 24 := by kernel_rfl
theorem za8 : zav Tryz.prog 8 = [.int .i64 0, .int .i64 0, .bool false, .int .u8 0] := by kernel_rfl
theorem ts9 : tsize Tryz.prog 9 = 1 := by kernel_rfl
theorem tb9 : tbytes Tryz.prog 9 = 16 := by kernel_rfl
theorem zl9 : zleaf Tryz.prog 9 = true := by kernel_rfl
theorem za9 : zav Tryz.prog 9 = [.str []] := by kernel_rfl
theorem ts10 : tsize Tryz.prog 10 = 1 := by kernel_rfl
theorem tb10 : tbytes Tryz.prog 10 = 16 := by kernel_rfl
theorem zl10 : zleaf Tryz.prog 10 = true := by kernel_rfl
theorem za10 : zav Tryz.prog 10 = [.str []] := by kernel_rfl
theorem ts11 : tsize Tryz.prog 11 = 1 := by kernel_rfl
theorem tb11 : tbytes Tryz.prog 11 = 16 := by kernel_rfl
theorem zl11 : zleaf Tryz.prog 11 = true := by kernel_rfl
theorem za11 : zav Tryz.prog 11 = [.str []] := by kernel_rfl
theorem ts12 : tsize Tryz.prog 12 = 1 := by kernel_rfl
theorem tb12 : tbytes Tryz.prog 12 = 8 := by kernel_rfl
theorem zl12 : zleaf Tryz.prog 12 = true := by kernel_rfl
theorem za12 : zav Tryz.prog 12 = [.int .u64 0] := by kernel_rfl
theorem ts13 : tsize Tryz.prog 13 = 2 := by kernel_rfl
theorem tb13 : tbytes Tryz.prog 13 = 24 := by kernel_rfl
theorem za13 : zav Tryz.prog 13 = [.str [], .int .u64 0] := by kernel_rfl
theorem ts14 : tsize Tryz.prog 14 = 2 := by kernel_rfl
theorem tb14 : tbytes Tryz.prog 14 = 24 := by kernel_rfl
theorem za14 : zav Tryz.prog 14 = [.str [], .int .u64 0] := by kernel_rfl
theorem ts18 : tsize Tryz.prog 18 = 1 := by kernel_rfl
theorem tb18 : tbytes Tryz.prog 18 = 8 := by kernel_rfl
theorem za18 : zav Tryz.prog 18 = [.raw (.pointer none)] := by kernel_rfl
theorem ts19 : tsize Tryz.prog 19 = 1 := by kernel_rfl
theorem tb19 : tbytes Tryz.prog 19 = 8 := by kernel_rfl
theorem za19 : zav Tryz.prog 19 = [.raw (.pointer none)] := by kernel_rfl
theorem ts21 : tsize Tryz.prog 21 = 1 := by kernel_rfl
theorem tb21 : tbytes Tryz.prog 21 = 4 := by kernel_rfl
theorem zl21 : zleaf Tryz.prog 21 = true := by kernel_rfl
theorem za21 : zav Tryz.prog 21 = [.int .i32 0] := by kernel_rfl
theorem ts22 : tsize Tryz.prog 22 = 1 := by kernel_rfl
theorem tb22 : tbytes Tryz.prog 22 = 24 := by kernel_rfl
theorem zl22 : zleaf Tryz.prog 22 = true := by kernel_rfl
theorem za22 : zav Tryz.prog 22 = [.raw (.slice none 0 0)] := by kernel_rfl
theorem ts24 : tsize Tryz.prog 24 = 2 := by kernel_rfl
theorem tb24 : tbytes Tryz.prog 24 = 32 := by kernel_rfl
theorem za24 : zav Tryz.prog 24 = [.raw (.slice none 0 0), .int .i64 0] := by kernel_rfl
theorem ts25 : tsize Tryz.prog 25 = 2 := by kernel_rfl
theorem tb25 : tbytes Tryz.prog 25 = 32 := by kernel_rfl
theorem za25 : zav Tryz.prog 25 = [.raw (.slice none 0 0), .int .i64 0] := by kernel_rfl
theorem ts27 : tsize Tryz.prog 27 = 1 := by kernel_rfl
theorem tb27 : tbytes Tryz.prog 27 = 8 := by kernel_rfl
theorem zl27 : zleaf Tryz.prog 27 = true := by kernel_rfl
theorem za27 : zav Tryz.prog 27 = [.int .i64 0] := by kernel_rfl
theorem ts35 : tsize Tryz.prog 35 = 1 := by kernel_rfl
theorem tb35 : tbytes Tryz.prog 35 = 24 := by kernel_rfl
theorem zl35 : zleaf Tryz.prog 35 = true := by kernel_rfl
theorem za35 : zav Tryz.prog 35 = [.raw (.slice none 0 0)] := by kernel_rfl
theorem ts36 : tsize Tryz.prog 36 = 2 := by kernel_rfl
theorem tb36 : tbytes Tryz.prog 36 = 40 := by kernel_rfl
theorem za36 : zav Tryz.prog 36 = [.str [], .raw (.slice none 0 0)] := by kernel_rfl
theorem ts37 : tsize Tryz.prog 37 = 2 := by kernel_rfl
theorem tb37 : tbytes Tryz.prog 37 = 40 := by kernel_rfl
theorem za37 : zav Tryz.prog 37 = [.str [], .raw (.slice none 0 0)] := by kernel_rfl
theorem ts39 : tsize Tryz.prog 39 = 1 := by kernel_rfl
theorem tb39 : tbytes Tryz.prog 39 = 24 := by kernel_rfl
theorem zl39 : zleaf Tryz.prog 39 = true := by kernel_rfl
theorem za39 : zav Tryz.prog 39 = [.raw (.slice none 0 0)] := by kernel_rfl
theorem ts41 : tsize Tryz.prog 41 = 4 := by kernel_rfl
theorem tb41 : tbytes Tryz.prog 41 = 40 := by kernel_rfl
theorem za41 : zav Tryz.prog 41 = [.str [], .int .i64 0, .int .i64 0, .int .i64 0] := by kernel_rfl
theorem ts42 : tsize Tryz.prog 42 = 4 := by kernel_rfl
theorem tb42 : tbytes Tryz.prog 42 = 40 := by kernel_rfl
theorem za42 : zav Tryz.prog 42 = [.str [], .int .i64 0, .int .i64 0, .int .i64 0] := by kernel_rfl
theorem ts63 : tsize Tryz.prog 63 = 1 := by kernel_rfl
theorem tb63 : tbytes Tryz.prog 63 = 8 := by kernel_rfl
theorem zl63 : zleaf Tryz.prog 63 = true := by kernel_rfl
theorem za63 : zav Tryz.prog 63 = [.raw (.map none)] := by kernel_rfl
theorem ts64 : tsize Tryz.prog 64 = 1 := by kernel_rfl
theorem tb64 : tbytes Tryz.prog 64 = 24 := by kernel_rfl
theorem zl64 : zleaf Tryz.prog 64 = true := by kernel_rfl
theorem za64 : zav Tryz.prog 64 = [.raw (.slice none 0 0)] := by kernel_rfl
theorem ts65 : tsize Tryz.prog 65 = 5 := by kernel_rfl
theorem tb65 : tbytes Tryz.prog 65 = 72 := by kernel_rfl
theorem za65 : zav Tryz.prog 65 = [.str [], .int .i64 0, .str [], .int .i64 0, .raw (.slice none 0 0)] := by kernel_rfl
theorem ts66 : tsize Tryz.prog 66 = 5 := by kernel_rfl
theorem tb66 : tbytes Tryz.prog 66 = 72 := by kernel_rfl
theorem za66 : zav Tryz.prog 66 = [.str [], .int .i64 0, .str [], .int .i64 0, .raw (.slice none 0 0)] := by kernel_rfl
theorem ts67 : tsize Tryz.prog 67 = 1 := by kernel_rfl
theorem tb67 : tbytes Tryz.prog 67 = 24 := by kernel_rfl
theorem zl67 : zleaf Tryz.prog 67 = true := by kernel_rfl
theorem za67 : zav Tryz.prog 67 = [.raw (.slice none 0 0)] := by kernel_rfl
theorem ts69 : tsize Tryz.prog 69 = 3 := by kernel_rfl
theorem tb69 : tbytes Tryz.prog 69 = 32 := by kernel_rfl
theorem za69 : zav Tryz.prog 69 = [.int .i64 0, .int .i64 0, .str []] := by kernel_rfl
theorem ts70 : tsize Tryz.prog 70 = 3 := by kernel_rfl
theorem tb70 : tbytes Tryz.prog 70 = 32 := by kernel_rfl
theorem za70 : zav Tryz.prog 70 = [.int .i64 0, .int .i64 0, .str []] := by kernel_rfl
theorem ts73 : tsize Tryz.prog 73 = 2 := by kernel_rfl
theorem tb73 : tbytes Tryz.prog 73 = 24 := by kernel_rfl
theorem za73 : zav Tryz.prog 73 = [.int .i64 0, .str []] := by kernel_rfl
theorem ts74 : tsize Tryz.prog 74 = 2 := by kernel_rfl
theorem tb74 : tbytes Tryz.prog 74 = 24 := by kernel_rfl
theorem za74 : zav Tryz.prog 74 = [.int .i64 0, .str []] := by kernel_rfl
theorem ts75 : tsize Tryz.prog 75 = 1 := by kernel_rfl
theorem tb75 : tbytes Tryz.prog 75 = 24 := by kernel_rfl
theorem zl75 : zleaf Tryz.prog 75 = true := by kernel_rfl
theorem za75 : zav Tryz.prog 75 = [.raw (.slice none 0 0)] := by kernel_rfl
theorem ts82 : tsize Tryz.prog 82 = 1 := by kernel_rfl
theorem tb82 : tbytes Tryz.prog 82 = 8 := by kernel_rfl
theorem zl82 : zleaf Tryz.prog 82 = true := by kernel_rfl
theorem za82 : zav Tryz.prog 82 = [.raw (.pointer none)] := by kernel_rfl
theorem ts96 : tsize Tryz.prog 96 = 2 := by kernel_rfl
theorem tb96 : tbytes Tryz.prog 96 = 24 := by kernel_rfl
theorem za96 : zav Tryz.prog 96 = [.int .i64 0, .str []] := by kernel_rfl
theorem ts97 : tsize Tryz.prog 97 = 2 := by kernel_rfl
theorem tb97 : tbytes Tryz.prog 97 = 24 := by kernel_rfl
theorem za97 : zav Tryz.prog 97 = [.int .i64 0, .str []] := by kernel_rfl
theorem ts103 : tsize Tryz.prog 103 = 3 := by kernel_rfl
theorem tb103 : tbytes Tryz.prog 103 = 48 := by kernel_rfl
theorem za103 : zav Tryz.prog 103 = [.str [], .raw (.slice none 0 0), .int .i64 0] := by kernel_rfl
theorem ts104 : tsize Tryz.prog 104 = 3 := by kernel_rfl
theorem tb104 : tbytes Tryz.prog 104 = 48 := by kernel_rfl
theorem za104 : zav Tryz.prog 104 = [.str [], .raw (.slice none 0 0), .int .i64 0] := by kernel_rfl
theorem ts109 : tsize Tryz.prog 109 = 1 := by kernel_rfl
theorem tb109 : tbytes Tryz.prog 109 = 8 := by kernel_rfl
theorem zl109 : zleaf Tryz.prog 109 = true := by kernel_rfl
theorem za109 : zav Tryz.prog 109 = [.raw (.map none)] := by kernel_rfl
theorem ts116 : tsize Tryz.prog 116 = 1 := by kernel_rfl
theorem tb116 : tbytes Tryz.prog 116 = 24 := by kernel_rfl
theorem zl116 : zleaf Tryz.prog 116 = true := by kernel_rfl
theorem za116 : zav Tryz.prog 116 = [.raw (.slice none 0 0)] := by kernel_rfl
theorem ts117 : tsize Tryz.prog 117 = 2 := by kernel_rfl
theorem tb117 : tbytes Tryz.prog 117 = 32 := by kernel_rfl
theorem za117 : zav Tryz.prog 117 = [.raw (.pointer none), .raw (.slice none 0 0)] := by kernel_rfl
theorem ts118 : tsize Tryz.prog 118 = 2 := by kernel_rfl
theorem tb118 : tbytes Tryz.prog 118 = 32 := by kernel_rfl
theorem za118 : zav Tryz.prog 118 = [.raw (.pointer none), .raw (.slice none 0 0)] := by kernel_rfl
theorem ts120 : tsize Tryz.prog 120 = 1 := by kernel_rfl
theorem tb120 : tbytes Tryz.prog 120 = 16 := by kernel_rfl
theorem zl120 : zleaf Tryz.prog 120 = true := by kernel_rfl
theorem za120 : zav Tryz.prog 120 = [.raw .nilIface] := by kernel_rfl
theorem ts124 : tsize Tryz.prog 124 = 1 := by kernel_rfl
theorem tb124 : tbytes Tryz.prog 124 = 24 := by kernel_rfl
theorem zl124 : zleaf Tryz.prog 124 = true := by kernel_rfl
theorem za124 : zav Tryz.prog 124 = [.raw (.slice none 0 0)] := by kernel_rfl
theorem ts126 : tsize Tryz.prog 126 = 2 := by kernel_rfl
theorem tb126 : tbytes Tryz.prog 126 = 16 := by kernel_rfl
theorem za126 : zav Tryz.prog 126 = [.int .i64 0, .int .i64 0] := by kernel_rfl
theorem ts128 : tsize Tryz.prog 128 = 1 := by kernel_rfl
theorem tb128 : tbytes Tryz.prog 128 = 24 := by kernel_rfl
theorem zl128 : zleaf Tryz.prog 128 = true := by kernel_rfl
theorem za128 : zav Tryz.prog 128 = [.raw (.slice none 0 0)] := by kernel_rfl
theorem ts130 : tsize Tryz.prog 130 = 4 := by kernel_rfl
theorem tb130 : tbytes Tryz.prog 130 = 72 := by kernel_rfl
theorem za130 : zav Tryz.prog 130 = [.int .i64 0, .raw (.slice none 0 0), .raw (.slice none 0 0), .str []] := by kernel_rfl
theorem ts131 : tsize Tryz.prog 131 = 4 := by kernel_rfl
theorem tb131 : tbytes Tryz.prog 131 = 72 := by kernel_rfl
theorem za131 : zav Tryz.prog 131 = [.int .i64 0, .raw (.slice none 0 0), .raw (.slice none 0 0), .str []] := by kernel_rfl
theorem ts153 : tsize Tryz.prog 153 = 1 := by kernel_rfl
theorem tb153 : tbytes Tryz.prog 153 = 8 := by kernel_rfl
theorem zl153 : zleaf Tryz.prog 153 = true := by kernel_rfl
theorem za153 : zav Tryz.prog 153 = [.raw (.pointer none)] := by kernel_rfl
theorem ts167 : tsize Tryz.prog 167 = 1 := by kernel_rfl
theorem tb167 : tbytes Tryz.prog 167 = 8 := by kernel_rfl
theorem zl167 : zleaf Tryz.prog 167 = true := by kernel_rfl
theorem za167 : zav Tryz.prog 167 = [.raw (.pointer none)] := by kernel_rfl
theorem ts171 : tsize Tryz.prog 171 = 1 := by kernel_rfl
theorem tb171 : tbytes Tryz.prog 171 = 8 := by kernel_rfl
theorem zl171 : zleaf Tryz.prog 171 = true := by kernel_rfl
theorem za171 : zav Tryz.prog 171 = [.int .i64 0] := by kernel_rfl
theorem ts177 : tsize Tryz.prog 177 = 1 := by kernel_rfl
theorem tb177 : tbytes Tryz.prog 177 = 8 := by kernel_rfl
theorem zl177 : zleaf Tryz.prog 177 = true := by kernel_rfl
theorem za177 : zav Tryz.prog 177 = [.int .u64 0] := by kernel_rfl
theorem ts183 : tsize Tryz.prog 183 = 1 := by kernel_rfl
theorem tb183 : tbytes Tryz.prog 183 = 8 := by kernel_rfl
theorem zl183 : zleaf Tryz.prog 183 = true := by kernel_rfl
theorem za183 : zav Tryz.prog 183 = [.raw (.pointer none)] := by kernel_rfl
theorem ts189 : tsize Tryz.prog 189 = 1 := by kernel_rfl
theorem tb189 : tbytes Tryz.prog 189 = 8 := by kernel_rfl
theorem zl189 : zleaf Tryz.prog 189 = true := by kernel_rfl
theorem za189 : zav Tryz.prog 189 = [.raw .nilFunc] := by kernel_rfl
theorem ts191 : tsize Tryz.prog 191 = 1 := by kernel_rfl
theorem tb191 : tbytes Tryz.prog 191 = 8 := by kernel_rfl
theorem zl191 : zleaf Tryz.prog 191 = true := by kernel_rfl
theorem za191 : zav Tryz.prog 191 = [.int .u64 0] := by kernel_rfl
theorem ts195 : tsize Tryz.prog 195 = 3 := by kernel_rfl
theorem tb195 : tbytes Tryz.prog 195 = 48 := by kernel_rfl
theorem za195 : zav Tryz.prog 195 = [.str [], .str [], .raw .nilIface] := by kernel_rfl
theorem ts196 : tsize Tryz.prog 196 = 3 := by kernel_rfl
theorem tb196 : tbytes Tryz.prog 196 = 48 := by kernel_rfl
theorem za196 : zav Tryz.prog 196 = [.str [], .str [], .raw .nilIface] := by kernel_rfl
theorem ts198 : tsize Tryz.prog 198 = 1 := by kernel_rfl
theorem tb198 : tbytes Tryz.prog 198 = 4 := by kernel_rfl
theorem zl198 : zleaf Tryz.prog 198 = true := by kernel_rfl
theorem za198 : zav Tryz.prog 198 = [.int .u32 0] := by kernel_rfl
theorem ts203 : tsize Tryz.prog 203 = 24 := by kernel_rfl
theorem tb203 : tbytes Tryz.prog 203 = 24 := by kernel_rfl
theorem ts209 : tsize Tryz.prog 209 = 2 := by kernel_rfl
theorem tb209 : tbytes Tryz.prog 209 = 2 := by kernel_rfl
theorem za209 : zav Tryz.prog 209 = [.int .u8 0, .int .u8 0] := by kernel_rfl
theorem ts210 : tsize Tryz.prog 210 = 2 := by kernel_rfl
theorem tb210 : tbytes Tryz.prog 210 = 2 := by kernel_rfl
theorem za210 : zav Tryz.prog 210 = [.int .u8 0, .int .u8 0] := by kernel_rfl
theorem ts211 : tsize Tryz.prog 211 = 32 := by kernel_rfl
theorem tb211 : tbytes Tryz.prog 211 = 32 := by kernel_rfl
theorem ts216 : tsize Tryz.prog 216 = 1 := by kernel_rfl
theorem tb216 : tbytes Tryz.prog 216 = 16 := by kernel_rfl
theorem za216 : zav Tryz.prog 216 = [.str []] := by kernel_rfl
theorem ts217 : tsize Tryz.prog 217 = 1 := by kernel_rfl
theorem tb217 : tbytes Tryz.prog 217 = 16 := by kernel_rfl
theorem za217 : zav Tryz.prog 217 = [.str []] := by kernel_rfl
theorem ts220 : tsize Tryz.prog 220 = 20 := by kernel_rfl
theorem tb220 : tbytes Tryz.prog 220 = 160 := by kernel_rfl
theorem ts225 : tsize Tryz.prog 225 = 32 := by kernel_rfl
theorem tb225 : tbytes Tryz.prog 225 = 32 := by kernel_rfl
theorem ts226 : tsize Tryz.prog 226 = 64 := by kernel_rfl
theorem tb226 : tbytes Tryz.prog 226 = 64 := by kernel_rfl
theorem ts227 : tsize Tryz.prog 227 = 4 := by kernel_rfl
theorem tb227 : tbytes Tryz.prog 227 = 40 := by kernel_rfl
theorem za227 : zav Tryz.prog 227 = [.raw (.pointer none), .raw (.pointer none), .raw (.pointer none), .str []] := by kernel_rfl
theorem ts228 : tsize Tryz.prog 228 = 4 := by kernel_rfl
theorem tb228 : tbytes Tryz.prog 228 = 40 := by kernel_rfl
theorem za228 : zav Tryz.prog 228 = [.raw (.pointer none), .raw (.pointer none), .raw (.pointer none), .str []] := by kernel_rfl
theorem ts232 : tsize Tryz.prog 232 = 1 := by kernel_rfl
theorem tb232 : tbytes Tryz.prog 232 = 1 := by kernel_rfl
theorem zl232 : zleaf Tryz.prog 232 = true := by kernel_rfl
theorem za232 : zav Tryz.prog 232 = [.int .u8 0] := by kernel_rfl
theorem ts233 : tsize Tryz.prog 233 = 1 := by kernel_rfl
theorem tb233 : tbytes Tryz.prog 233 = 1 := by kernel_rfl
theorem zl233 : zleaf Tryz.prog 233 = true := by kernel_rfl
theorem za233 : zav Tryz.prog 233 = [.int .u8 0] := by kernel_rfl
theorem ts235 : tsize Tryz.prog 235 = 1 := by kernel_rfl
theorem tb235 : tbytes Tryz.prog 235 = 4 := by kernel_rfl
theorem zl235 : zleaf Tryz.prog 235 = true := by kernel_rfl
theorem za235 : zav Tryz.prog 235 = [.int .i32 0] := by kernel_rfl
theorem ts236 : tsize Tryz.prog 236 = 1 := by kernel_rfl
theorem tb236 : tbytes Tryz.prog 236 = 4 := by kernel_rfl
theorem zl236 : zleaf Tryz.prog 236 = true := by kernel_rfl
theorem za236 : zav Tryz.prog 236 = [.int .i32 0] := by kernel_rfl
theorem ts237 : tsize Tryz.prog 237 = 11 := by kernel_rfl
theorem tb237 : tbytes Tryz.prog 237 = 48 := by kernel_rfl
theorem za237 : zav Tryz.prog 237 = [.int .u64 0, .int .u64 0, .int .u32 0, .int .u8 0, .int .u8 0, .int .u8 0, .int .u8 0, .raw .nilFunc, .raw (.pointer none), .int .i32 0, .int .i32 0] := by kernel_rfl
theorem ts238 : tsize Tryz.prog 238 = 11 := by kernel_rfl
theorem tb238 : tbytes Tryz.prog 238 = 48 := by kernel_rfl
theorem za238 : zav Tryz.prog 238 = [.int .u64 0, .int .u64 0, .int .u32 0, .int .u8 0, .int .u8 0, .int .u8 0, .int .u8 0, .raw .nilFunc, .raw (.pointer none), .int .i32 0, .int .i32 0] := by kernel_rfl
end Go.Proofs.YtpjbbpilgfihbaaGreatDoor
/- What the library's contracts on strings.Builder ask besides. Own work of this seat. -/
set_option maxRecDepth 100000
namespace Go.Proofs
open Go.Shelf
theorem Tryz.Builder_Extra_169 : Builder.Extra Tryz.prog Tryz.lays169_ren := {
  sizeBuilder := by kernel_rfl
  liesBuilder := by kernel_rfl
  t5 := Tryz.underlying5
  a5 := Tryz.isAgg5
  z5 := Tryz.sizeOf5
  v5 := Tryz.zeroValue5
  infoByte := by kernel_rfl
  cellsByte := by kernel_rfl
  sizeByte := by kernel_rfl
  neB5 := by decide }
end Go.Proofs
/- What is leant on of the library's variables. Own work of this seat. -/
set_option linter.unusedSimpArgs false
set_option linter.unusedVariables false
namespace Go.Proofs.YtpjbbpilgfihbaaGreatDoor
open Go Go.Av Go.RowKit

structure LibOk (S : Std) : Prop where
  maxlen : ∃ m cs t z, S 0 = some (.cells cs t z) ∧ cs[0]? = some (.int .i64 m)
  pow10 : ∃ t z, S 5 = some (.cells (Lib.pow10Tab.map fun z => Value.int .u64 z).toArray t z)
  syn : ∃ te pe t z, S 1 = some (.cells #[.iface te pe] t z)

theorem LibOk.cell {S : Std} (hS : LibOk S) : ∃ m, ∀ w, Stands S w → w.cell? ⟨Tryz.lays144_ren.g 1, 0, none⟩ = some (.int .i64 m) := by
  obtain ⟨m, cs, t, z, h, h0⟩ := hS.maxlen
  exact ⟨m, fun w hw => (Lib.cell_of_heap (hw _ _ h) 0).trans h0⟩
end Go.Proofs.YtpjbbpilgfihbaaGreatDoor
/- From a contract in plain data to the row: what was there when the call began stands. Own work of this seat. -/
set_option linter.unusedSimpArgs false
set_option linter.unusedVariables false
namespace Go.Av
open Go Go.RowKit Go.WideShapes Go.ChangeShapes

theorem Same.below {W W' : World} (s : Same W W') : Below W.heap.size W W' := ⟨s.os, s.tape, s.output, s.size, s.block⟩

theorem rv_true {h : Mem} {v : Value} {b : Bool} (r : RV h Lf0 true v (.bool b)) : v = .bool b := by
  cases r with
  | bool => rfl

section
variable {H : Type} {enc : TypeId × Value → H} {P : Program}
/-- a call behind which all old blocks stand: the row's last step -/
theorem post_of_old {f : Func} {s : ChangeSpec} {apart fresh handsOn again : Bool} {W W' : World} {args : Array Value} {v : Value} {ds gs : List (DataW H)} {before pa pv : List MemPlace}
    (hW : DataW.Whole enc P f.params.toList s.vars apart W args.toList ds gs before)
    (hres : ∀ (b : Nat) (sp : Nat → Bool) (hd : Bool), DataW.TrodAll enc P W' b sp hd f.resultTypes.toList (v.resultList f.resultTypes.size) (s.fn H (ds ++ gs)).results [])
    (hargs : ∀ sp : Nat → Bool, (∀ p ∈ before, sp p.block = true) → DataW.TrodAll enc P W' 0 sp true f.params.toList args.toList (s.fn H (ds ++ gs)).args pa)
    (hvars : ∀ sp : Nat → Bool, (∀ p ∈ before, sp p.block = true) → DataW.TrodVars enc P W' sp s.vars (s.fn H (ds ++ gs)).vars pv)
    (hps : before = pa ++ pv) (hs : Same W W')
    (hok : ∀ (j : Nat) (t : TypeId) (r : Value), f.resultTypes[j]? = some t → (v.resultList f.resultTypes.size)[j]? = some r → Value.okWide P W' .any 0 t r) :
    s.post enc P f apart fresh handsOn again W args v W' := by
  have hb := hs.below
  have hlt : ∀ p ∈ before, p.block < W.heap.size := fun p hp => hW.lt p hp
  have hold : ∀ p ∈ before, (fun b => decide (b < W.heap.size)) p.block = true := fun p hp => decide_eq_true (hlt p hp)
  have hwritten : ∀ p ∈ before, p ∈ before ∧ (p ∈ ([] : List MemPlace) ++ pa ∨ p ∈ pv) := fun p hp => ⟨hp, by rw [hps] at hp; simpa using hp⟩
  refine ⟨ds, gs, before, [], pa, pv, hW, hres _ _ _, hargs _ hold, hvars _ hold, World.keptBut_mono (fun p hp => ⟨hp, ?_⟩) (hb.frame (· ∈ before)), fun _ => ?_⟩
  · have := (hwritten p hp).2
    simpa using this
  · obtain ⟨_, _, _, _, _, hz, hn⟩ := hW
    refine ⟨hok, _, _, ([] ++ pa) ++ pv, ⟨[] ++ pa, pv, trodAll_append (hargs _ (fun _ _ => rfl)) (hres _ _ _), hvars _ (fun _ _ => rfl), rfl, ?_, ?_⟩, ?_⟩
    · intro b off hp
      have hin : MemPlace.cell b off ∈ before := by rw [hps]; simpa using hp
      rw [hb.frozen (hlt _ hin)]
      exact hz b off hin
    · intro ha
      have h2 := hn ha
      rw [hps] at h2
      simpa using h2
    · intro p hp _
      rw [hps]
      simpa using hp
end
end Go.Av
/- From a contract in plain data to a row whose law takes a list of integers, reads listed tables' row and leans on a cell of the library's. Own work of this seat. -/
set_option linter.unusedSimpArgs false
set_option linter.unusedVariables false
namespace Go.Av
open Go Go.RowKit Go.WideShapes Go.ChangeShapes

/-- all cells of a world -/
def full (W : World) : Mem := fun b o => (W.cell? ⟨b, o, none⟩).filter (·.oneCell')
theorem full_of {W : World} {b o : Nat} {v : Value} (h : W.cell? ⟨b, o, none⟩ = some v) (hv : v.oneCell' = true) : full W b o = some v := by simp [full, h, Option.filter, hv]
theorem of_full {W : World} {b o : Nat} {v : Value} (h : full W b o = some v) : W.cell? ⟨b, o, none⟩ = some v ∧ v.oneCell' = true := by
  unfold full at h
  rw [Option.filter_eq_some_iff] at h
  exact h

theorem PcH.atW {P : Program} {g : Std} {f : FuncId} {args : List AV} {b : Bool} (hc : PcH P g f args (· = .bool b)) {W : World} {vs : List Value} (hg : Stands g W) (hv : RL (full W) Lf0 true vs args) :
    Calls P f vs.toArray W fun e W' => e = .returned (.bool b) ∧ Same W W' :=
  (hc.2 (full W) W vs hg (fun _ _ _ e => of_full e) hv).mono fun e W' ⟨v, r, h', e1, e2, _, _, _, hs, rv⟩ => by
    subst e2
    rw [rv_true rv] at e1
    exact ⟨e1, hs⟩

section
variable {H : Type} {enc : TypeId × Value → H} {P : Program} {t e : TypeId} {W : World} {base : Nat} {v : Value} {d : DataW H} {p : List MemPlace}

/-- a list of integers that is handed in: plain, and read again behind the call -/
theorem ints_arg (ht : P.underlying t = some (.slice e)) (he : P.underlying e = some (.int .i64)) (hc : P.cellsOf e = 1) (hval : Value.okWide P W .any base t v) (h0 : DataW.Trod enc P W 0 (fun _ => true) true t v d p) :
    ∃ L : List Int, (∀ x ∈ L, (Lit.int .i64 x).wf = true) ∧ RV (full W) Lf0 true v (.fz 1 (L.map (.int .i64))) ∧ ∀ W', Same W W' → ∀ sp : Nat → Bool, (∀ x ∈ p, sp x.block = true) → DataW.Trod enc P W' 0 sp true t v d p := by
  obtain ⟨a0, len, cap, rfl⟩ := okWide_slice ht hval
  obtain ⟨fuel, hf⟩ := h0
  rcases Go.ChangeShapes.open_ints ht he hc hf with ⟨hcs, hx⟩ | ⟨a, len', cap', zs, hcs, _, hl, hm, hz, hx, hcell, hwz⟩
  · simp only [Value.cells, List.cons.injEq, Value.slice.injEq, and_true] at hcs
    obtain ⟨rfl, rfl, rfl⟩ := hcs
    simp only [Prod.mk.injEq] at hx
    obtain ⟨rfl, rfl⟩ := hx
    exact ⟨[], by simp, .fznil 1, fun W' _ sp _ => shut_slice_nil ht⟩
  · simp only [Value.cells, List.cons.injEq, Value.slice.injEq, and_true] at hcs
    obtain ⟨rfl, rfl, rfl⟩ := hcs
    simp only [Prod.mk.injEq] at hx
    obtain ⟨rfl, rfl⟩ := hx
    simp only [if_true] at hz
    have hspot : a.spot = none := by
      simp only [Value.okWide, ht, Cell.okWide, Cell.ok] at hval
      exact hval.2.2.2.1
    obtain ⟨b, off, spot⟩ := a
    simp only at hspot
    subst hspot
    have hcell' : ∀ i, i < zs.length → W.cell? ⟨b, off + i, none⟩ = some (.int .i64 (zs.getD i 0)) := fun i hi => by rw [← Go.WideShapes.add_plain]; exact hcell i hi
    have htl : (zs.take len).length = len := by simp; omega
    refine ⟨zs.take len, fun x hx => hwz x (List.mem_of_mem_take hx), ?_, fun W' hs sp hsp => ?_⟩
    · have := RV.fz (h := full W) (Lf := Lf0) (fl := true) b off cap 1 ((zs.take len).map (.int .i64)) ((zs.take len).map (.int .i64)) ?_ (fun x hx => by obtain ⟨z, _, rfl⟩ := List.mem_map.1 hx; rfl) ?_ (by simp; omega)
      · rwa [List.length_map, htl] at this
      · generalize zs.take len = l
        induction l with
        | nil => exact .nil
        | cons x l ih => exact .cons (.int _ _) ih
      · intro k u hu
        rw [List.getElem?_map] at hu
        obtain ⟨z, hz1, rfl⟩ := Option.map_eq_some_iff.1 hu
        have hk : k < len := by
          have := (List.getElem?_eq_some_iff.1 hz1).1
          omega
        rw [List.getElem?_take_of_lt hk] at hz1
        have hkz : k < zs.length := (List.getElem?_eq_some_iff.1 hz1).1
        refine full_of ?_ rfl
        rw [hcell' k hkz]
        simp [List.getD, hz1]
    · have hcell2 : ∀ i, i < zs.length → W'.cell? ⟨b, off + i, none⟩ = some (.int .i64 (zs.getD i 0)) := fun i hi => hs.cell (hcell' i hi)
      refine ⟨0 + 2, ?_⟩
      refine Go.ChangeShapes.shut_ints' 0 ht he hc (Nat.zero_le _) hl hm ?_ hcell2 hwz
      rcases Nat.eq_zero_or_pos zs.length with h0 | h0
      · split <;> omega
      · have hb : sp b = true := hsp (.cell b off) (by
          have : 0 < zs.length := h0
          simp only [MemPlace.row]
          refine List.mem_map.2 ⟨0, by simp; omega, by simp⟩)
        rw [if_pos hb]
        exact hz
end

section
variable {H : Type} {enc : TypeId × Value → H}
/-- the wrap of a row that lists variables, the world's shape kept -/
theorem row_and_shaped {a : Assume} {C : Checked} {os : Os} {f : FuncId} {fn : Func} {s : ChangeSpec} {conds : List PathCond} {apart fresh handsOn again : Bool} {X : World → Array Value → Prop}
    (hX : ∀ (w w' : World) (args : Array Value), w.heap = w'.heap → X w args → X w' args)
    (own : ownKnob C.prog.godebug = none) (started : os.Started) (noInit : C.prog.inits.idxOf? f = none) (hfn : C.prog.funcs[f]? = some fn)
    (witness : ∃ (w : World) (tape : Tape) (i : Input), w.os = os ∧ (w.forCall tape i).Shaped C.prog ∧ i.vars = [] ∧ Input.okWide C.prog (w.forCall tape i) .any w.heap.size f i ∧
      ((s.pre enc C.prog fn conds apart (w.forCall tape i).memory i.args ∧ X (w.forCall tape i).memory i.args) ∧ sizedMet enc C.prog fn (OpenSpec.ofChange s) apart (w.forCall tape i).memory i.args) ∧ a.holds C.prog (lone (Frame.enter C.prog f i.args .normal) [] (w.forCall tape i)))
    (contract : ∀ (W : World) (base : Nat) (args : Array Value) (ds gs : List (DataW H)) (before : List MemPlace),
      (∀ (j : Nat) t v, fn.params[j]? = some t → args[j]? = some v → Value.okWide C.prog W .any base t v) →
      DataW.Whole enc C.prog fn.params.toList s.vars apart W args.toList ds gs before →
      W.ShapedOpen C.prog → X W args →
      Calls C.prog f args W fun e W' => ∃ v, e = .returned v ∧ s.post enc C.prog fn apart fresh handsOn again W args v W') :
    ReturnsInHanded a C os f .any (fun w args => (s.pre enc C.prog fn conds apart w args ∧ X w args) ∧ sizedMet enc C.prog fn (OpenSpec.ofChange s) apart w args) (s.post enc C.prog fn apart fresh handsOn again) := by
  refine returnsInHanded_of_calls own started noInit witness ?_
  intro w tape i _ hsh _ hok hpre hholds
  obtain ⟨_, _, _, fn', hfn', _, _, _, _, hval⟩ := hok
  have e : fn' = fn := Option.some.inj (hfn'.symm.trans hfn)
  subst e
  obtain ⟨⟨⟨ds, gs, before, hw, hc⟩, hx⟩, hz⟩ := hpre
  have hw' := DataW.Whole.of_heap (w' := w.forCall tape i) (by rfl) hw
  refine (contract (w.forCall tape i) w.heap.size i.args ds gs before hval hw' hsh (hX _ _ _ (by rfl) hx)).mono fun e W' ⟨v, he, hp⟩ => ?_
  subst he
  exact ChangeSpec.post_blind hp
end
end Go.Av
/- What all laws of this seat share: the library's own variables, and the row's frame. Own work of this seat. -/
set_option maxRecDepth 100000
set_option linter.unusedSimpArgs false
set_option linter.unusedVariables false
namespace Go.Proofs.YtpjbbpilgfihbaaGreatDoor
open Go Go.Av Go.RowKit Go.ChangeShapes Go.WideShapes Go.ChangeAt

theorem own : ownKnob Tryz.prog.godebug = none := by kernel_rfl
theorem c3 : Tryz.prog.cellsOf 3 = 1 := by kernel_rfl

/-- the blocks of the package-level variables -/
def stdOf (W : World) : Std := fun k => if k < 1000 then W.heap[k]? else none
theorem stands (W : World) : Stands (stdOf W) W := fun k o e => by
  unfold stdOf at e
  split at e
  · exact e
  · cases e

theorem var_heap {P : Program} {W : World} {n : String} {g : Nat} {cs : Array Value} (hg : P.globalNamed n = some g) (h : W.var? P n = some cs) : ∃ t z, W.heap[g]? = some (.cells cs t z) := by
  simp only [World.var?, hg, Option.bind_some] at h
  split at h
  · rename_i c t z hq
    cases h
    exact ⟨t, z, hq⟩
  · cases h

theorem star_name : "*" ++ "errors.errorString" = "*errors.errorString" := by decide
theorem error_row (u : TypeId) (h : Tryz.prog.typeName? 3 u = some "*errors.errorString") : u = 215 :=
  typeName_ptr_named (nm := "errors.errorString") (by rw [star_name]; kernel_rfl) (by kernel_rfl) (by decide) u (by rw [star_name]; exact h)

theorem pow_data : Rows.laid_internal_strconv_uint64pow10 = Lib.tabData (H := Unit) .u64 Lib.pow10Tab := by kernel_rfl

theorem lib_ok {W : World} (h : W.ShapedOpen Tryz.prog) {laid : List (String × DataW Unit)} (hp : (laid.all fun x => x.2.handleName?.isNone) = true) (hL : laidMetH Tryz.prog laid W)
    (e1 : laid.filter (fun x => x.1 == "internal/strconv.uint64pow10") = [("internal/strconv.uint64pow10", Rows.laid_internal_strconv_uint64pow10)])
    (e2 : laid.filter (fun x => x.1 == "strconv.ErrSyntax") = [("strconv.ErrSyntax", Rows.laid_strconv_ErrSyntax)]) : LibOk (stdOf W) := by
  rw [MakeChecks.laidMetH_plain _ _ _ hp] at hL
  have h1 := hL.filter (fun x => x.1 == "internal/strconv.uint64pow10")
  have h2 := hL.filter (fun x => x.1 == "strconv.ErrSyntax")
  rw [e1, pow_data] at h1
  rw [e2] at h2
  refine ⟨?_, ?_, ?_⟩
  · have hg : Tryz.lays144_ren.g 1 = 0 := rfl
    obtain ⟨zero, t, hz⟩ : ∃ zero t, ((begin Tryz.prog (fun _ _ => 0) default).world.heap[0]?).bind Obj.row? = some (zero, t) ∧ zero.size = 1 ∧ Tryz.prog.buildable t = true ∧ Tryz.prog.cellTypes Tryz.prog.depth t = some [t] ∧ Tryz.prog.underlying t = some (.int .i64) := by
      refine ⟨#[.int .i64 0], 3, by kernel_rfl, by kernel_rfl, by kernel_rfl, by kernel_rfl, by kernel_rfl⟩
    obtain ⟨m, hm⟩ := Go.Proofs.cell_of_shapedOpen_int h (g := 0) (of_decide_eq_true (by kernel_rfl)) hz.1 hz.2.1 hz.2.2.1 hz.2.2.2.1 hz.2.2.2.2
    unfold World.cell? at hm
    split at hm
    · rename_i cs t z hq
      exact ⟨m, cs, t, z, hq, by simpa using hm⟩
    · cases hm
  · have ht := Lib.tabIs_of_head (g := 5) (t := 220) (e := 191) (n := 20) (by kernel_rfl) (by kernel_rfl) Tryz.underlying220 Tryz.underlying191 (by kernel_rfl) (by kernel_rfl) h1
    exact var_heap (by kernel_rfl) ht
  · obtain ⟨a0, s0, hv0, -, -, -⟩ := laid_sentinel h2 (g := 1) (by kernel_rfl) (by kernel_rfl) Tryz.underlying120 error_row Tryz.underlying215 Tryz.underlying217 rfl rfl Tryz.underlying9 (by kernel_rfl) (by kernel_rfl)
    obtain ⟨t, z, hh⟩ := var_heap (g := 1) (by kernel_rfl) hv0
    exact ⟨_, _, t, z, hh⟩
end Go.Proofs.YtpjbbpilgfihbaaGreatDoor
/- strings.Builder: what writing a string does to memory, to the block. Own work of this seat. -/
set_option linter.unusedVariables false
set_option linter.unusedSimpArgs false
namespace Go.Proofs.YtpjbbpilgfihbaaGreatDoor
open Go Go.RowKit Go.Lib
open Go.Av (Fr rowOf WriteC StringC)

theorem jb : ∃ j, Tryz.prog.info? 118 = some j ∧ j.size = 2 := Option.map_eq_some_iff.1 (show (Tryz.prog.info? 118).map (·.size) = some 2 by kernel_rfl)

set_option maxRecDepth 100000 in
theorem cc_used (b : Nat) (w : World) (h0 : w.cell? ⟨b, 0, none⟩ = some (.pointer (some ⟨b, 0, none⟩))) :
    Calls Tryz.prog 122 #[.pointer (some ⟨b, 0, none⟩)] w fun e w' => e = .returned (.tuple #[]) ∧ w' = w := by
  obtain ⟨j, hj, hjs⟩ := jb
  go_enter Tryz.func122, Tryz.ntmps122
  go_wp2
  rw [run_neq_ptr_same w _ Tryz.underlying115 hj]
  go_wp2
  go_end0
  exact ⟨rfl, rfl⟩

set_option maxRecDepth 100000 in
theorem cc_fresh (b : Nat) (w : World) (h0 : w.cell? ⟨b, 0, none⟩ = some (.pointer none)) (hsh : w.shape? b = some (118, 2)) (hfz : w.frozen? ⟨b, 0, none⟩ = false) :
    Calls Tryz.prog 122 #[.pointer (some ⟨b, 0, none⟩)] w fun e w' => e = .returned (.tuple #[]) ∧ w' = w.setCell ⟨b, 0, none⟩ (.pointer (some ⟨b, 0, none⟩)) := by
  obtain ⟨j, hj, hjs⟩ := jb
  go_enter Tryz.func122, Tryz.ntmps122
  go_wp2
  rw [run_to_unsafe w ⟨b, 0, none⟩ Tryz.underlying115 Tryz.underlying167 hj (by rw [hjs]; decide) hsh (Nat.zero_lt_succ 1)]
  simp only [Result.andThen]
  rw [Oper.upon_value]
  go_wp2
  rw [run_callFunc_extern Tryz.func154 (by kernel_rfl) (by kernel_rfl) (by kernel_rfl) (e := Extern.AbiNoEscape.same) (by kernel_rfl)]
  rw [run_noEscape]
  simp only [Result.andThen]
  rw [Oper.upon_value]
  go_wp2
  rw [run_from_unsafe w ⟨b, 0, none⟩ Tryz.underlying167 Tryz.underlying115 hj hsh (by kernel_rfl)]
  simp only [Result.andThen]
  rw [Oper.upon_value]
  go_wp2
  go_end0
  exact ⟨rfl, rfl⟩

theorem cc (B b : Nat) (bs : List Value) (w : World) (h : IsBuilder 118 5 B b bs w) : Calls Tryz.prog 122 #[.pointer (some ⟨b, 0, none⟩)] w fun e w' => e = .returned (.tuple #[]) ∧ BuilderAt 118 5 B b (.pointer (some ⟨b, 0, none⟩)) bs w' ∧
    Fr w w' b none ∧ w'.cell? ⟨b, 1, none⟩ = w.cell? ⟨b, 1, none⟩ := by
  rcases h with h | h
  · refine (cc_fresh b w h.cell0 h.shape h.frozen0).mono ?_
    rintro e w' ⟨rfl, rfl⟩
    refine ⟨rfl, h.used _, ⟨rfl, rfl, rfl, by simp [World.setCell], fun k _ hk _ => heap_setCell_other w _ k _ hk⟩, World.cell?_setCell_other _ _ _ _ (by simp)⟩
  · refine (cc_used b w h.cell0).mono ?_
    rintro e w' ⟨rfl, rfl⟩
    exact ⟨rfl, h, ⟨rfl, rfl, rfl, Nat.le_refl _, fun _ _ _ _ => rfl⟩, rfl⟩

/-- where the row stands behind an append of a string's bytes -/
theorem append_block {w : World} {B : Nat} {v v' : Value} {n : Nat} {xs : List Value} {s : ByteArray} {ty : TypeId} {w' : World} {i : TypeInfo} (hi : Tryz.prog.info? 5 = some i) (hz : i.zero = some (.int .u8 0)) (hsize : i.size = 1) (hby : i.bytes = 1)
    (hown : w.ownsRow B 5 1 v n xs) (h63 : n + s.size ≤ maxLen) (hb : n + s.size ≤ 140737488355328) (hB : B ≤ w.heap.size) (hr : (Builtin.append_ #[116, 9] ty #[v, .string s]).run Tryz.prog w = .ok v' w') :
    v'.ownBlock = none ∨ v'.ownBlock = v.ownBlock ∨ v'.ownBlock = some w.heap.size := by
  have hm63 : n + s.size ≤ 9223372036854775807 := by unfold maxLen at h63; omega
  have hxl : xs.length = n := by simpa using hown.1
  obtain ⟨v1, w1, hr1, _, _, h4⟩ := run_append_own_string (P := Tryz.prog) w B 116 9 ty 5 i Tryz.underlying116 Tryz.underlying9 hi hz hsize hby v n xs hown s h63 hb hB
  rw [hr] at hr1
  obtain ⟨rfl, _⟩ : v' = v1 ∧ w' = w1 := by simpa using hr1
  rcases hown.2 with ⟨rfl, rfl⟩ | ⟨g, cap, cur, rfl, hbg, hg, hnc, hcm, hcs, htake⟩
  · by_cases hm : s.size = 0
    · rw [h4.2 ⟨rfl, hm⟩]; exact .inl rfl
    · have h := run_append_nil_string (P := Tryz.prog) w 116 9 ty 5 i (.int .u8 0) Tryz.underlying116 Tryz.underlying9 hi hz s (by omega) (by omega) (by rw [hby]; omega)
      rw [hr] at h
      have : v' = .slice (some ⟨w.heap.size, 0, none⟩) s.size (grownCap w s.size 0 5) := (show v' = _ ∧ w' = _ by simpa using h).1
      rw [this]; exact .inr (.inr rfl)
  · by_cases hroom : n + s.size ≤ cap
    · have h := run_append_room_string (P := Tryz.prog) w 116 9 ty 5 i Tryz.underlying116 Tryz.underlying9 hi hsize g n cap cur hg s hroom (by omega)
      rw [hr] at h
      have : v' = .slice (some ⟨g, 0, none⟩) (n + s.size) cap := (show v' = _ ∧ w' = _ by simpa using h).1
      rw [this]; exact .inr (.inl rfl)
    · have h := run_append_grow_string (P := Tryz.prog) w 116 9 ty 5 i (.int .u8 0) Tryz.underlying116 Tryz.underlying9 hi hz ⟨g, 0, none⟩ n cap xs (by rw [hsize]; simpa using hxl) (hown.cells (g := g) rfl) s (by omega) (by omega) (by rw [hby]; exact growslice_fits (by omega) (by omega))
      rw [hr] at h
      have : v' = .slice (some ⟨w.heap.size, 0, none⟩) (n + s.size) (grownCap w (n + s.size) cap 5) := (show v' = _ ∧ w' = _ by simpa using h).1
      rw [this]; exact .inr (.inr rfl)

/-- the operation, for the walk -/
theorem wpList_append {w : World} {ops : Array Oper} {rest : List Oper} {o : Oper} {a : Act} {Q : Exit → Act → World → Prop} (hgd : o.guard = none) (sl x : Operand)
    (ho : o.op = .call { callee := .builtin .append, args := #[sl, x], argTypes := #[116, 9] }) (B : Nat) (i : TypeInfo) (hi : Tryz.prog.info? 5 = some i) (hz : i.zero = some (.int .u8 0)) (hsize : i.size = 1) (hby : i.bytes = 1)
    (v : Value) (n : Nat) (xs : List Value) (hs : a.eval sl = v) (hown : w.ownsRow B 5 1 v n xs) (s : ByteArray) (hx : a.eval x = .string s) (h63 : n + s.size ≤ maxLen) (hb : n + s.size ≤ 140737488355328) (hB : B ≤ w.heap.size)
    (h : ∀ v' w', w'.ownsRow B 5 1 v' (n + s.size) (xs ++ strCells s) → w.grownBy w' v.ownBlock → (v'.ownBlock = none ∨ v'.ownBlock = v.ownBlock ∨ v'.ownBlock = some w.heap.size) → wpList Tryz.prog ops Q rest (a.put o.dst v') w') : wpList Tryz.prog ops Q (o :: rest) a w := by
  refine wpList_plain hgd fun K hK => ?_
  obtain ⟨v', w', hr, h2, h3, _⟩ := run_append_own_string (P := Tryz.prog) w B 116 9 o.type 5 i Tryz.underlying116 Tryz.underlying9 hi hz hsize hby v n xs hown s h63 hb hB
  have hbk := append_block hi hz hsize hby hown h63 hb hB hr
  unfold Oper.wp execOp
  simp only [ho, resolve, invoke, builtin, Sem.run_bind, Sem.run_pure, Result.andThen_ok, List.map_toArray, List.map_cons, List.map_nil, hs, hx, hr]
  exact hK _ _ (h v' w' h2 h3 hbk)

set_option maxHeartbeats 2000000 in
set_option maxRecDepth 100000 in
/-- what WriteString does -/
theorem wstr (B b : Nat) (bs : List Value) (s : ByteArray) (w : World) (h : IsBuilder 118 5 B b bs w) (hlen : bs.length + s.size ≤ 140737488355328) (hBw : B ≤ w.heap.size) :
    Calls Tryz.prog 80 #[.pointer (some ⟨b, 0, none⟩), .string s] w fun e w' => e = .returned (.tuple #[.int .i64 s.size, .nilIface]) ∧ BuilderAt 118 5 B b (.pointer (some ⟨b, 0, none⟩)) (bs ++ strCells s) w' ∧
      Fr w w' b (rowOf w b) ∧ ∀ r, rowOf w' b = some r → rowOf w b = some r ∨ w.heap.size ≤ r := by
  obtain ⟨i0, hi, hz0, hz1, hz2⟩ := info_parts Tryz.Builder_Extra_169.infoByte
  go_enter Tryz.func80, Tryz.ntmps80
  go_wp2_with (go_at_call 122; refine (cc B b bs _ h).mono ?_)
  rintro e w1 ⟨rfl, h1, hf, hc1⟩
  obtain ⟨hB, v, hbk, hown, hne⟩ := h1
  have c0 : w1.cell? ⟨b, 0, none⟩ = some (.pointer (some ⟨b, 0, none⟩)) := by rw [cell_of_heap hbk]; rfl
  have c1 : w1.cell? ⟨b, 1, none⟩ = some v := by rw [cell_of_heap hbk]; rfl
  have hrow : rowOf w b = v.ownBlock := by rw [rowOf, ← hc1, c1]; rfl
  clear hc1
  go_wp2_with (at_builtin; refine wpList_append rfl _ _ rfl B i0 hi hz0 hz1 hz2 _ _ _ rfl hown s rfl ?c3 ?c4 ?c5 ?_)
  case c3 => unfold maxLen; omega
  case c4 => omega
  case c5 => have := hf.size; omega
  intro v' w2 hown' hgrow hblk
  have hlt : b < w1.heap.size := by
    rcases Nat.lt_or_ge b w1.heap.size with h' | h'
    · exact h'
    · simp [Array.getElem?_eq_none h'] at hbk
  have hb2 : w2.heap[b]? = some (.cells #[.pointer (some ⟨b, 0, none⟩), v] 118 (0, 0)) := by
    rw [hgrow.block b hlt (fun e => hne e.symm)]
    exact hbk
  have d0 : w2.cell? ⟨b, 0, none⟩ = some (.pointer (some ⟨b, 0, none⟩)) := by rw [cell_of_heap hb2]; rfl
  have d1 : w2.cell? ⟨b, 1, none⟩ = some v := by rw [cell_of_heap hb2]; rfl
  have f1 : w2.frozen? ⟨b, 1, none⟩ = false := frozen_of_heap hb2 1
  obtain ⟨ao, n', cap, rfl⟩ : ∃ ao n' cap, v' = .slice ao n' cap := by
    rcases hown'.2 with ⟨hv, _⟩ | ⟨g, cap, cur, hv, _⟩
    · exact ⟨_, _, _, hv⟩
    · exact ⟨_, _, _, hv⟩
  go_wp2
  go_ret2
  refine ⟨rfl, BuilderAt.put (T := 118) (e := 5) hB hb2 (bs' := bs ++ strCells s) (by simpa [strCells_length] using hown') (by decide), ?_⟩
  have hw2 : rowOf (w2.setCell ⟨b, 1, none⟩ (.slice ao n' cap)) b = Value.ownBlock (.slice ao n' cap) := by
    rw [rowOf, World.cell?_setCell_same _ _ _ d1]; rfl
  rw [hrow]
  refine ⟨⟨(hgrow.os.trans hf.os), (hgrow.tape.trans hf.tape), (hgrow.output.trans hf.output), by have := hf.size; have := hgrow.size; simp [World.setCell]; omega, fun k hk hkb hkr => by
    rw [heap_setCell_other _ _ k _ hkb, hgrow.block k (by have := hf.size; omega) hkr, hf.block k hk hkb (by simp)]⟩, fun r hr => ?_⟩
  rw [hw2] at hr
  rcases hblk with h | h | h
  · rw [h] at hr; cases hr
  · rw [h] at hr; exact .inl hr
  · rw [h] at hr
    have := hf.size
    simp at hr
    exact .inr (by omega)

theorem write_c : WriteC Tryz.prog 80 118 5 := ⟨hB80, fun B b bs s w h h1 h2 => wstr B b bs s w h h1 h2⟩
theorem string_c : StringC Tryz.prog 82 118 5 := ⟨hB82, fun B b l w h h2 => Any.Builder_String_any Tryz.lays169 Tryz.Builder_Extra_169 B b l w h h2⟩
end Go.Proofs.YtpjbbpilgfihbaaGreatDoor
/- strings.Builder: a byte that is written. Own work of this seat. -/
set_option linter.unusedSimpArgs false
set_option linter.unusedVariables false
namespace Go.Av
open Go Go.RowKit

section
variable {T e : TypeId} {B b : Nat} {l : List UInt8} {c : Cx} {k : List It} {en : Env} {s : List Blk}

/-- WriteByte -/
def WriteBC (P : Program) (f : FuncId) (T e : TypeId) : Prop := hasBody P f = true ∧ ∀ (B b : Nat) (l : List UInt8) (x : UInt8) (w : World), Lib.IsBuilder T e B b (Lib.byteCells l) w → l.length + 1 ≤ 140737488355328 → B ≤ w.heap.size →
  Calls P f #[.pointer (some ⟨b, 0, none⟩), .int .u8 x.toNat] w fun en w' => en = .returned .nilIface ∧ Lib.BuilderAt T e B b (.pointer (some ⟨b, 0, none⟩)) (Lib.byteCells (l ++ [x])) w' ∧ Fr w w' b (rowOf w b) ∧
    ∀ r, rowOf w' b = some r → rowOf w b = some r ∨ w.heap.size ≤ r

theorem bwriteB {f : FuncId} (hw : WriteBC c.P f T e) {x : UInt8} {d : Option Tmp} {all os : List Oper} (hx : c.x = BldA T e B b l) (hB : B = c.w.heap.size) {N : Nat} (hN : c.fn.ntmps = N) (hd : dOk N d = true) (hlen : l.length + 1 ≤ 140737488355328)
    (hk : AWp { c with x := BldA T e B b (l ++ [x]), hx := bld_stb T e B b (l ++ [x]) } (.ops all os :: k) (put en d (.raw .nilIface)) s) :
    ACall c f [.raw (.pointer (some ⟨b, 0, none⟩)), .int .u8 x.toNat] d all os k en s := by
  intro a w h ρ vs hm hl he hdf hsz hX hv
  rw [hx] at hX
  obtain ⟨h1, h2, h3⟩ := hX
  refine ⟨hw.1, ?_⟩
  have hvs : vs = [.pointer (some ⟨b, 0, none⟩), .int .u8 x.toNat] := by
    cases hv with | cons r1 r2 => cases r2 with | cons r2 r3 => cases r3; rw [inv_raw r1, inv_int r2]
  subst hvs
  obtain ⟨p, v, p1, p2, p3, p4, p5, p6⟩ := bld_parts h1
  refine (hw.2 B b _ x w h1 hlen (by have := hl.size; omega)).mono ?_
  rintro en' w' ⟨rfl, hb, hf, hnew⟩
  have hm' := hm.fr hf h2 h3
  have hrow : ∀ r, rowOf w b = some r → B ≤ r := fun r hr => by rw [p6] at hr; exact (p4.lt r hr).1
  have hl' : Later c.h c.ρ c.sto c.w h ρ s w' := ⟨hl.hle, hl.hnew, hl.keep, hf.os.trans hl.os, hf.tape.trans hl.tape, hf.output.trans hl.output, Nat.le_trans hl.size hf.size, fun k' hk' hno => by
    rw [hf.block k' (Nat.lt_of_lt_of_le hk' hl.size) (by omega) (fun e => by have := hrow k' e.symm; omega)]
    exact hl.block k' hk' hno, hl.newown⟩
  have hbd : BldA T e B b (l ++ [x]) h ρ w' := by
    have hbi : Lib.IsBuilder T e B b (Lib.byteCells (l ++ [x])) w' := .inr hb
    obtain ⟨p', v', q1, q2, q3, q4, q5, q6⟩ := bld_parts hbi
    refine ⟨hbi, h2, fun r hr => ?_⟩
    rcases hnew r hr with hold | hrs
    · exact h3 r hold
    · exact ⟨fun i t hi => by have := hm.lt hi; omega, fun o => by
        cases hq : h r o with
        | none => rfl
        | some v => have := hm.memlt hq; omega⟩
  have := hk (a.put d _) w' ⟨h, ρ, hm', hl', he.put (by rw [hsz, hN]; exact hd) (.raw _), by rw [put_defers']; exact hdf, by rw [put_size]; exact hsz, hbd⟩
  rw [WQ_x] at this
  exact this

/-- what is said of the world: a builder's text -/
@[reducible] def Cx.bld (c : Cx) (T e : TypeId) (B b : Nat) (l : List UInt8) : Cx := { c with x := BldA T e B b l, hx := bld_stb T e B b l }

theorem bld_self {c : Cx} {T e : TypeId} {B b : Nat} {l : List UInt8} (hx : c.x = BldA T e B b l) : c.bld T e B b l = c := by
  cases c
  simp only at hx
  subst hx
  rfl

/-- a loop whose rounds write to a builder -/
theorem bloop {c : Cx} {k : List It} {T e : TypeId} {B b : Nat} {C : Code} {ι : Type} (μ : ι → Nat) (E : ι → Env) (S : ι → List Blk) (L : ι → List UInt8) (H : ι → Prop) (x0 : ι) (hx : c.x = BldA T e B b (L x0)) (hH : H x0) {en : Env} {s : List Blk}
    (hs : Shift c en s (E x0) (S x0))
    (step : ∀ x, H x → (∀ y, H y → μ y < μ x → ∀ l', l' = L y → ∀ e' s', Shift (c.bld T e B b l') e' s' (E y) (S y) → AWp (c.bld T e B b l') (.inv (Hd c.P C (WQ c k)) :: k) e' s') →
      AWp (c.bld T e B b (L x)) (.code C :: .inv (Hd c.P C (WQ c k)) :: k) (E x) (S x)) :
    AWp c (.code (.loop C) :: k) en s := by
  refine AWp.shift hs (aenter ?_)
  have key : ∀ n x, μ x = n → H x → AHd (c.bld T e B b (L x)) C k (E x) (S x) := by
    intro n
    induction n using Nat.strongRecOn with
    | _ n ih =>
      rintro x rfl hx
      have h1 := step x hx (fun y hy hlt l' hl' e' s' sh => by
        subst hl'
        exact AWp.shift sh (aagain_x (c0 := c) rfl (ih _ hlt y rfl hy)))
      have e1 : WQ (c.bld T e B b (L x)) k = WQ c k := WQ_x c _ _ k
      refine around ?_
      show AWp _ (.code C :: .inv (Hd c.P C (WQ (c.bld T e B b (L x)) k)) :: k) _ _
      rw [e1]
      exact h1
  have := key _ x0 rfl hH
  rwa [bld_self hx] at this
end
end Go.Av
