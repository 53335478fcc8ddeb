/- The walk within a round of a range over a function, and behind such a range. Own work of this seat (written by a program out of AvH, AvJ, AvJi, AvY). -/
import Derived.Test.YtkfpiadgjbhcpaaGreatDoorT23
import Derived.Test.YtkfpiadgjbhcpaaGreatDoorT18
import Derived.RangeFuncRecord
import Derived.RangeFuncIn
import Derived.Sort.LoopGhostIn
import Derived.OrdersIn
import Derived.TacticsIn
import Derived.RangeFuncLeaves
import Derived.RangeFuncOwn
import Derived.Test.YtkfpiadgjbhcpaaGreatDoorT14
import Derived.Test.YtkfpiadgjbhcpaaGreatDoorT28
import Derived.Test.YtkfpiadgjbhcpaaGreatDoorT33
import Derived.Test.YtkfpiadgjbhcpaaGreatDoorT21
set_option linter.unusedSimpArgs false
set_option linter.unusedVariables false
set_option linter.unusedSectionVars false
namespace Go.Av
open Go Go.RowKit
variable [Tr]

/-- a round's frame (or one behind a range): 'rd' the loop's record, 'df' the calls deferred, 'out' what is asked where the code is left -/
structure Cr where
  c : Cx
  rd : Option Nat
  df : List Deferred
  out : Exit → Act → World → Prop
def Cr.F (r : Cr) : Fence := { fn := fun _ => True, depth := none, alive := false, round := r.rd }
def WQg (F : Fence) (P : Program) (N : Nat) (out : Exit → Act → World → Prop) : List It → Exit → Act → World → Prop
  | [], e, a, w => out e a w
  | x :: k, e, a, w => match e with
    | .normal => match x with
      | .ops all rest => wpListIn F 0 P all.toArray (WQg F P N out k) rest a w
      | .op all o rest => dOk N o.dst = true → o.wpIn F 0 P a w (wpListIn F 0 P all.toArray (WQg F P N out k) rest) (WQg F P N out k)
      | .code y => y.wpIn F 0 P (WQg F P N out k) a w
      | .blk _ => WQg F P N out k .normal a w
      | .inv J => J a w
    | .exit id => match x with
      | .blk i => if id = i then WQg F P N out k .normal a w else WQg F P N out k (.exit id) a w
      | _ => WQg F P N out k (.exit id) a w
    | e => WQg F P N out k e a w
@[reducible] def WQr (r : Cr) : List It → Exit → Act → World → Prop := WQg r.F r.c.P r.c.fn.ntmps r.out

def SimR (r : Cr) (e : Env) (s : List Blk) (a : Act) (w : World) : Prop :=
  ∃ h ρ, Mine h ρ s w ∧ Later r.c.h r.c.ρ r.c.sto r.c.w h ρ s w ∧ EnvOk h ρ s e a ∧ a.defers = r.df ∧ a.tmps.size = r.c.fn.ntmps ∧ r.c.x h ρ w
theorem SimR.sim {r : Cr} {e : Env} {s : List Blk} {a : Act} {w : World} (h : SimR r e s a w) : Sim r.c e s { a with defers := [] } w := by
  obtain ⟨h, ρ, a1, a2, a3, a4, a5, a6⟩ := h
  exact ⟨h, ρ, a1, a2, a3, rfl, a5, a6⟩
theorem Sim.simR {r : Cr} {e : Env} {s : List Blk} {a : Act} {w : World} (hd : a.defers = r.df) (h : Sim r.c e s { a with defers := [] } w) : SimR r e s a w := by
  obtain ⟨h, ρ, a1, a2, a3, a4, a5, a6⟩ := h
  exact ⟨h, ρ, a1, a2, a3, hd, a5, a6⟩
theorem Shift.r {r : Cr} {e e' : Env} {s s' : List Blk} (x : Shift r.c e s e' s') {a : Act} {w : World} (h : SimR r e s a w) : SimR r e' s' a w := by
  have hd : a.defers = r.df := by obtain ⟨_, _, _, _, _, hd, _⟩ := h; exact hd
  exact Sim.simR hd (x _ _ h.sim)

def AWpR (r : Cr) (k : List It) (e : Env) (s : List Blk) : Prop := ∀ a w, SimR r e s a w → WQr r k .normal a w
def AOut (r : Cr) (x : Exit) (e : Env) (s : List Blk) : Prop := ∀ a w, SimR r e s a w → r.out x a w
def ACallR (r : Cr) (f : FuncId) (args : List AV) (d : Option Tmp) (all os : List Oper) (k : List It) (e : Env) (s : List Blk) : Prop :=
  ∀ a w h ρ vs, Mine h ρ s w → Later r.c.h r.c.ρ r.c.sto r.c.w h ρ s w → EnvOk h ρ s e a → a.defers = r.df → a.tmps.size = r.c.fn.ntmps → r.c.x h ρ w → RL h (Lf ρ s) false vs args →
    hasBody r.c.P f = true ∧ Calls r.c.P f vs.toArray w fun en w' => match en with
      | .returned v => WQr r (.ops all os :: k) .normal (a.put d v) w'
      | _ => False

def resNR (r : Cr) (o : Oper) (all os : List Oper) (k : List It) (e : Env) (s : List Blk) : Res → Nx
  | .ok v => .go (.ops all os :: k) (put e o.dst v) s
  | .side p v => .side p (.ops all os :: k) (put e o.dst v) s
  | .sto p v s' => .side p (.ops all os :: k) (put e o.dst v) s'
  | .pick b x y => .two b (.ops all os :: k) (put e o.dst x) s (.ops all os :: k) (put e o.dst y) s
  | .call f args => .leaf (ACallR r f args o.dst all os k e s)
  | .anyb p => .leaf (p ∧ ∀ b, AWpR r (.ops all os :: k) (put e o.dst (.bool b)) s)
  | .stuck => .leaf (AWpR r (.op all o os :: k) e s)
def stopNR (r : Cr) (k : List It) (e : Env) (s : List Blk) : Nx := .leaf (AWpR r k e s)
def exitNR (r : Cr) (id : Nat) (e : Env) (s : List Blk) : Option (List It) → Nx
  | some k => .go k e s
  | none => .leaf (AOut r (.exit id) e s)
def step1R (wr frz : Bool) (N : Nat) (r : Cr) (k : List It) (e : Env) (s : List Blk) : Nx :=
  match k with
  | .ops _ [] :: k => .go k e s
  | .ops all (o :: os) :: k => bif dOk N o.dst then opN o all os k e s o.guard else .leaf False
  | .op all o os :: k => resNR r o all os k e s (xop wr frz r.c.P e s o.op)
  | .code .skip :: k => .go k e s
  | .code (.region id ops draw) :: k => bif draw then stopNR r (.code (.region id ops true) :: k) e s else .go (.ops ops.toList ops.toList :: k) e s
  | .code (.seq a b) :: k => .go (.code a :: .code b :: k) e s
  | .code (.cond x a b) :: k => condN a b k e s (ev e x)
  | .code (.block id x) :: k => .go (.code x :: .blk id :: k) e s
  | .code (.exit id) :: k => exitNR r id e s (exitIt id k)
  | .code .ret :: _ => .leaf (AOut r .ret e s)
  | .code x :: k => stopNR r (.code x :: k) e s
  | .blk _ :: k => .go k e s
  | .inv J :: k => stopNR r (.inv J :: k) e s
  | [] => .leaf (AOut r .normal e s)

mutual
def runR (wr frz : Bool) (N : Nat) (c : Cr) : Nat → List It → Env → List Blk → Prop
  | 0, k, e, s => AWpR c k e s
  | n + 1, k, e, s => contR wr frz N c n (step1R wr frz N c k e s)
def contR (wr frz : Bool) (N : Nat) (c : Cr) : Nat → Nx → Prop
  | n, .go k e s => runR wr frz N c n k e s
  | n, .two b k e s k' e' s' => brR wr frz N c n b k e s k' e' s'
  | n, .side p k e s => p ∧ runR wr frz N c n k e s
  | _, .leaf p => p
def brR (wr frz : Bool) (N : Nat) (c : Cr) : Nat → Bool → List It → Env → List Blk → List It → Env → List Blk → Prop
  | 0, b, k, e, s, k', e', s' => (b = true → AWpR c k e s) ∧ (b = false → AWpR c k' e' s')
  | n + 1, b, k, e, s, k', e', s' => (b = true → runR wr frz N c n k e s) ∧ (b = false → runR wr frz N c n k' e' s')
end
section
variable {r : Cr} {k : List It} {e : Env} {s : List Blk}

theorem AWpR.shift {e' : Env} {s' : List Blk} (x : Shift r.c e s e' s') (h : AWpR r k e' s') : AWpR r k e s := fun a w hs => h a w (x.r hs)
theorem AOut.shift {y : Exit} {e' : Env} {s' : List Blk} (x : Shift r.c e s e' s') (h : AOut r y e' s') : AOut r y e s := fun a w hs => h a w (x.r hs)

end

section
variable {c : Cx} {e : Env} {s : List Blk}
/-! ### an open order: the text's order, with whatever follows -/
mutual
def dxk (c : Cx) (all : List Oper) (K : Env → List Blk → Prop) : Nat → List Oper → List AV → Env → List Blk → Prop
  | _, [], _, e, s => K e s
  | 0, _ :: _, _, _, _ => False
  | n + 1, o :: r, cs, e, s => dxkc c all K n (dgrd c all s o r cs e o.guard)
def dxkc (c : Cx) (all : List Oper) (K : Env → List Blk → Prop) : Nat → Dn → Prop
  | n, .go r cs e s => dxk c all K n r cs e s
  | n, .two b r cs e r' cs' e' s => dbrk c all K n b r cs e r' cs' e' s
  | n, .side p r cs e s => p ∧ dxk c all K n r cs e s
  | _, .fail => False
def dbrk (c : Cx) (all : List Oper) (K : Env → List Blk → Prop) : Nat → Bool → List Oper → List AV → Env → List Oper → List AV → Env → List Blk → Prop
  | 0, _, _, _, _, _, _, _, _ => False
  | n + 1, b, r, cs, e, r', cs', e', s => (b = true → dxk c all K n r cs e s) ∧ (b = false → dxk c all K n r' cs' e' s)
end
end

section
variable {r : Cr} {k : List It} {e : Env} {s : List Blk}
theorem SimR.eqv {e' : Env} {a : Act} {w : World} (h : Eqv e e') (hs : SimR r e s a w) : SimR r e' s a w := by
  obtain ⟨hh, ρ, hm, hl, he, hdf, hsz, hX⟩ := hs
  exact ⟨hh, ρ, hm, hl, fun t => by rw [← h t]; exact he t, hdf, hsz, hX⟩
theorem AWpR.eqv {e' : Env} (h : Eqv e e') (x : AWpR r k e s) : AWpR r k e' s := fun a w hs => x a w (hs.eqv fun t => (h t).symm)
theorem AWpR.K : ∀ e e' s, Eqv e e' → AWpR r k e s → AWpR r k e' s := fun _ _ _ h x => x.eqv h
end
end Go.Av
namespace Go.Av
open Go Go.RowKit
variable [Tr]

section
variable {h h' h0 : Mem} {ρ ρ' ρ0 : Own} {s s' s0 : List Blk} {w w' w0 : World}

theorem cell_putObj {l b o : Nat} {x : Obj} (hb : b ≠ l) : (w.putObj l x).cell? ⟨b, o, none⟩ = w.cell? ⟨b, o, none⟩ :=
  World.cell?_of_block (World.putObj_heap_other hb)
/-- a block that is no cells, and not of the table, turns -/
theorem Mine.putObj (m : Mine h ρ s w) {l : Nat} {o x : Obj} (hl : w.heap[l]? = some o) (hc : o.isCells = false) (hn : ∀ i t, ρ i ≠ some (l, t)) : Mine h ρ s (w.putObj l x) := by
  refine ⟨fun b i v e => ?_, fun id blk e => ?_, m.out, m.inj, m.disj⟩
  · have h1 := m.mem b i v e
    refine ⟨?_, h1.2⟩
    by_cases hb : b = l
    · subst hb
      exfalso
      have := h1.1
      simp only [World.cell?, hl] at this
      cases o <;> simp [Obj.isCells] at hc this
    · rw [cell_putObj hb]; exact h1.1
  · exact (m.own id blk e).mono (fun _ _ _ x => x) (fun _ _ x => x) rfl fun g t hg => World.putObj_heap_other fun e => hn id t (by rw [← e]; exact hg)
/-- .. and turns back -/
theorem Later.around {l : Nat} {o1 o2 : Obj} (hl : w.heap[l]? = some o1) (L : Later h ρ s (w.putObj l o2) h' ρ' s' w') : Later h ρ s w h' ρ' s' (w'.putObj l o1) := by
  have hlt : l < w.heap.size := (Array.getElem?_eq_some_iff.1 hl).1
  have hsz := L.size
  rw [World.putObj_size] at hsz
  refine ⟨L.hle, fun b o a e => by have := L.hnew b o a e; rwa [World.putObj_size] at this, L.keep, L.os, L.tape, ⟨L.output.1, Tr.trans (Tr.same (w' := w.putObj l o2) rfl) (Tr.trans L.output.2 (Tr.same rfl))⟩, by rw [World.putObj_size]; exact hsz, fun k hk hn => ?_, fun i g t e => by have := L.newown i g t e; rwa [World.putObj_size] at this⟩
  by_cases hkl : k = l
  · subst hkl
    rw [World.putObj_heap_same (by omega), hl]
  · rw [World.putObj_heap_other hkl, L.block k (by rw [World.putObj_size]; exact hk) hn, World.putObj_heap_other hkl]
end

/-- fewer slots, the table told in other words -/
theorem Shift.weakS {c : Cx} {e e' : Env} {s s' : List Blk} (h : wk e e') (hs : s = s') : Shift c e s e' s' := hs ▸ Shift.weak h

/-- blocks that hold just this, and are not of the table -/
def XB (l : List (Nat × Obj)) : Mem → Own → World → Prop := fun _ ρ w => ∀ p ∈ l, w.heap[p.1]? = some p.2 ∧ ∀ i t, ρ i ≠ some (p.1, t)
theorem stbB (l : List (Nat × Obj)) : Stb (XB l) where
  later := fun {h ρ sto w h' ρ' sto' w'} _ L x p hp => by
    obtain ⟨h1, h2⟩ := x p hp
    have hlt : p.1 < w.heap.size := (Array.getElem?_eq_some_iff.1 h1).1
    refine ⟨(L.block p.1 hlt h2).trans h1, fun i t e => ?_⟩
    rcases L.newown i p.1 t e with ⟨j, t', hj⟩ | hs
    · exact h2 j t' hj
    · omega
  fewer := fun hf x p hp => by
    obtain ⟨h1, h2⟩ := x p hp
    refine ⟨h1, fun i t e => ?_⟩
    obtain ⟨j, t', hj⟩ := hf i p.1 t e
    exact h2 j t' hj
def DfO (Ds : List Nat) : List (Nat × Obj) := Ds.map fun D => (D, .deferred (some []))
def dfs (Ds : List Nat) : List Deferred := Ds.map fun D => { target := .collected D, args := #[] }

/-- the context of a round; of code behind ranges -/
def outM (P : Program) (fn : Func) (h : Mem) (ρ : Own) (sto : List Blk) (w : World) (post : AV → List Blk → Prop) : Exit → Act → World → Prop :=
  bodyPostM Fence.wide 0 P fn fun en w' => ∃ v r s h' ρ', en = .returned v ∧ post r s ∧ Mine h' ρ' s w' ∧ Later h ρ sto w h' ρ' s w' ∧ RV h' (Lf ρ' s) false v r
@[reducible] def mkM (P : Program) (fn : Func) (h : Mem) (ρ : Own) (sto : List Blk) (w : World) (post : AV → List Blk → Prop) (Ds : List Nat) : Cr :=
  ⟨⟨P, fn, h, ρ, sto, w, post, XB (DfO Ds), stbB _⟩, none, dfs Ds, outM P fn h ρ sto w post⟩
@[reducible] def mkL (P : Program) (fn : Func) (h : Mem) (ρ : Own) (sto : List Blk) (w : World) (l : List (Nat × Obj)) (id : Nat) : Cr :=
  ⟨⟨P, fn, h, ρ, sto, w, fun _ _ => True, XB l, stbB l⟩, some id, [], fun _ _ _ => False⟩

end Go.Av
namespace Go.Av
open Go Go.RowKit
variable [Tr]

theorem acut {c : Cx} {x : It} {B : Code} {k : List It} {e : Env} {s : List Blk} {ι : Type} (E : ι → Env) (S : ι → List Blk) (H : ι → Prop)
    (h1 : ∀ J : Act → World → Prop, (∀ y, H y → ∀ a w, Sim c (E y) (S y) a w → J a w) → AWp c (x :: .inv J :: k) e s)
    (h2 : ∀ y, H y → AWp c (.code B :: k) (E y) (S y)) : AWp c (x :: .code B :: k) e s := by
  intro a w hs
  have h := h1 (fun a w => B.wp c.P (WQ c k) a w) (fun y hy a w hs => h2 y hy a w hs) a w hs
  have e1 : WQ c (.inv (fun a w => B.wp c.P (WQ c k) a w) :: k) = WQ c (.code B :: k) := by
    funext en a w
    cases en <;> rfl
  have e2 : WQ c (x :: .inv (fun a w => B.wp c.P (WQ c k) a w) :: k) = WQ c (x :: .code B :: k) := by
    funext en a w
    cases en <;> simp only [WQ, e1]
  rw [e2] at h
  exact h
end Go.Av
set_option maxRecDepth 100000
namespace Go.Proofs.YtkfpiadgjbhcpaaGreatDoor
open Go Go.Av Go.RowKit

/-- a story: numbers from 1 on, all else drawn -/
structure StoryOk (x : Sr) : Prop where
  title : x.title ∈ TitleL
  len : x.scenes.length ≤ 5
  no : ∀ i, (h : i < x.scenes.length) → x.scenes[i].no = lastL (i + 1)
  all : ∀ i, (h : i < x.scenes.length) → DrawnS ⟨[], x.scenes[i].place, x.scenes[i].set, x.scenes[i].time, x.scenes[i].paras⟩
  first : ∀ y, x.scenes.head? = some y → y.time ≠ 5
theorem story_ok {x : Sr} (h : DrawnR x) : StoryOk (numR x) := by
  have hg : ∀ i, (hi : i < (numR x).scenes.length) → ∃ (h2 : i < x.scenes.length), (numR x).scenes[i] = nm i x.scenes[i] := fun i hi => by
    simp only [numR, numL_len] at hi
    refine ⟨hi, ?_⟩
    have := numL_get x.scenes 0 i hi
    simp only [Nat.zero_add] at this
    exact (List.getElem?_eq_some_iff.1 this).2
  refine ⟨h.title, by simp only [numR, numL_len]; exact h.len, fun i hi => ?_, fun i hi => ?_, fun y hy => ?_⟩
  · obtain ⟨h2, e⟩ := hg i hi
    rw [e]
    exact num_last i (by have := h.len; omega)
  · obtain ⟨h2, e⟩ := hg i hi
    rw [e]
    have hd := h.all _ (List.getElem_mem h2)
    exact ⟨rfl, hd.place, hd.set, hd.time, hd.run, hd.len, hd.all⟩
  · have := h.first
    obtain ⟨ti, xs⟩ := x
    cases xs with
    | nil => simp [numR, numL] at hy
    | cons a r =>
      simp only [numR, numL, List.head?_cons, Option.some.injEq] at hy
      rw [← hy]
      exact this a rfl
theorem no_facts (i : Nat) (hi : i < 5) : Lib.trimLeftS (lastL (i + 1)) DIG = [] ∧ 1 ≤ (lastL (i + 1)).length ∧ (lastL (i + 1)).length ≤ 3 ∧ (lastL (i + 1)).getD 0 0 ≠ 48 ∧ (lastL (i + 1) == []) = false := by
  have h : ∀ i : Fin 5, Lib.trimLeftS (lastL (i.1 + 1)) DIG = [] ∧ 1 ≤ (lastL (i.1 + 1)).length ∧ (lastL (i.1 + 1)).length ≤ 3 ∧ (lastL (i.1 + 1)).getD 0 0 ≠ 48 ∧ (lastL (i.1 + 1) == []) = false := by decide +kernel
  exact h ⟨i, hi⟩
theorem no_ne (i j : Nat) (hi : i < 5) (hj : j < 5) (h : i ≠ j) : lastL (i + 1) ≠ lastL (j + 1) := by
  have h' : ∀ i j : Fin 5, i.1 ≠ j.1 → lastL (i.1 + 1) ≠ lastL (j.1 + 1) := by decide +kernel
  exact h' ⟨i, hi⟩ ⟨j, hj⟩ h
theorem set_bd : ∀ s ∈ SetL, s.length < 1000 := by decide
theorem title_bd : ∀ s ∈ TitleL, 1 ≤ s.length ∧ s.length ≤ 60 := by decide
theorem StoryOk.inj {x : Sr} (h : StoryOk x) {i j : Nat} (hi : i < x.scenes.length) (hj : j < x.scenes.length) (e : x.scenes[i].no = x.scenes[j].no) : i = j := by
  rw [h.no i hi, h.no j hj] at e
  have := h.len
  exact Classical.byContradiction fun hn => no_ne i j (by omega) (by omega) hn e

theorem headR_pch {S : Std} (hS : LibR S) (x : Sc) (i : Nat) (hi : i < 5) (hno : x.no = lastL (i + 1)) (hp : 1 ≤ x.place ∧ x.place ≤ 3) (ht : 1 ≤ x.time ∧ x.time ≤ 5) (hs : x.set.length < 1000) :
    PcH Tryz.prog S 189 [scA x] (· = .int .i64 (if setR x.set then 0 else 3)) := by
  obtain ⟨a1, a2, a3, a4, a5⟩ := no_facts i hi
  rw [← hno] at a1 a2 a3 a4 a5
  have e0 : (x.no != []) = true := by rw [bne, a5]; rfl
  have hn := numberOf_pc x.no a1 a2 a3 a4
  have e1 : decide (x.place < 1) = false := by simp; omega
  have e2 : decide (x.place > 3) = false := by simp; omega
  have e3 : decide (x.time < 1) = false := by simp; omega
  have e4 : decide (x.time > 5) = false := by simp; omega
  have hset := setR_pch hS x.set (by omega)
  simp only [scA]
  refine pch_intro (cth_intro Tryz.func189 rfl Tryz.ntmps189 hB189 (by simp) fun h ρ w hg => goB (N := 37) Tryz.ntmps189 300 ?_)
  simp only [go_sem, e0]
  refine pcall1 (hn) rfl (N := 37) Tryz.ntmps189 rfl (goB (N := 37) Tryz.ntmps189 300 ?_)
  simp only [go_sem, e1, e2, e3, e4]
  refine pcallH1 hg (hset) rfl (N := 37) Tryz.ntmps189 rfl (goB (N := 37) Tryz.ntmps189 300 ?_)
  cases e5 : setR x.set with
  | false =>
    simp only [go_sem]
    exact aret [2] rfl ⟨rfl, rfl⟩
  | true =>
    simp only [go_sem]
    exact aret [2] rfl ⟨rfl, rfl⟩
theorem sameNo_pc (x y : Sc) : Pc Tryz.prog 190 [scA x, .pin 5 [scA y] 0 0] (· = .bool (x.no == y.no)) := by
  simp only [scA]
  refine pc_intro (ct_intro Tryz.func190 rfl Tryz.ntmps190 hB190 (by simp) fun h ρ w => goB (N := 9) Tryz.ntmps190 300 ?_)
  simp only [go_sem]
  exact aret [3] rfl ⟨rfl, rfl⟩

def parasR : List Pa → Int
  | [] => 0
  | p :: r => if paraR p != 0 then paraR p else parasR r
def sceneR (x : Sc) : Int := if setR x.set then parasR x.paras else 3
set_option maxHeartbeats 2000000 in
theorem sceneR_pch {S : Std} (hS : LibR S) (x : Sr) (hx : StoryOk x) (k : Nat) (hk : k < x.scenes.length) : PcH Tryz.prog S 126 [.fz 5 (x.scenes.map scA), .int .i64 k] (· = .int .i64 (sceneR x.scenes[k])) := by
  have hlen := hx.len
  have hd := hx.all k hk
  have hno := hx.no k hk
  obtain ⟨a1, a2, a3, a4, a5⟩ := no_facts k (by omega)
  rw [← hno] at a1 a2 a3 a4 a5
  have e0 : (x.scenes[k].no != []) = true := by rw [bne, a5]; rfl
  have hh := headR_pch hS x.scenes[k] k (by omega) hno hd.place hd.time (set_bd _ hd.set)
  have hnew : (x.scenes.take k).any (fun y => y.no == x.scenes[k].no) = false := by
    rw [List.any_eq_false]
    intro y hy
    obtain ⟨j, hj, rfl⟩ := List.getElem_of_mem hy
    rw [List.length_take] at hj
    rw [List.getElem_take]
    simp only [beq_iff_eq]
    exact fun e => absurd (hx.inj (by omega) hk e) (by omega)
  have hany := anySc_pc 190 [.pin 5 [scA x.scenes[k]] 0 0] rfl (fun y => y.no == x.scenes[k].no) (x.scenes.take k) (by rw [List.length_take]; omega) (fun y _ => sameNo_pc y x.scenes[k])
  rw [hnew, List.map_take] at hany
  have hft : ((k : Int) == 0) = false ∨ (x.scenes[k].time == 5) = false := by
    by_cases h0 : k = 0
    · subst h0
      right
      have := hx.first x.scenes[0] (by rw [List.head?_eq_getElem?, List.getElem?_eq_getElem hk])
      simpa using this
    · left; simp; omega
  obtain ⟨e, hr, h2, h3⟩ := hd.run
  simp only at hr
  have hget := scA_get x.scenes k hk
  have hres : (if setR x.scenes[k].set then parasR x.scenes[k].paras else 3) = sceneR x.scenes[k] := rfl
  have hm := hd.len
  simp only at hm
  generalize hsc : x.scenes[k] = sc at *
  rw [← hres]
  have hbor := Ct.borrowF (P := Tryz.prog) (f := 80) (args := [.fz 5 (List.take k (x.scenes.map scA)), .fn (.func 190) [.ptr 0 1 0 0]]) 1 [.arr 5 [scA sc]] (post := (· = .bool false)) hany (by rintro r rfl; rfl)
  simp only [scA] at hbor hh
  have hk2 : decide ((k : Int) ≤ (x.scenes.length : Int)) = true := by simp; omega
  refine pch_intro (cth_intro Tryz.func126 rfl Tryz.ntmps126 hB126 (by simp) fun h ρ w hg => goB (N := 65) Tryz.ntmps126 300 ?_)
  simp only [go_sem, hget, List.length_map]
  repeat refine And.intro (by first | omega | rfl | (simp; done) | (simp; omega)) ?_
  refine pcallH1 hg (hh) rfl (N := 65) Tryz.ntmps126 rfl (goB (N := 65) Tryz.ntmps126 300 ?_)
  have hq : (((k : Int) == 0) = true ∧ (sc.time == 5) = false) ∨ (((k : Int) == 0) = false ∧ True) := by
    cases h0 : ((k : Int) == 0) with
    | true =>
      rw [h0] at hft
      exact .inl ⟨rfl, hft.resolve_left (by simp)⟩
    | false => exact .inr ⟨rfl, trivial⟩
  rcases hq with ⟨q1, q2⟩ | ⟨q1, q2⟩ <;>
  · cases e5 : setR sc.set with
    | false =>
      simp only [Bool.false_eq_true, if_false]
      simp only [go_sem, e0, hk2]
      repeat refine And.intro (by first | omega | rfl | (simp; done) | (simp; omega)) ?_
      refine acall (hbor) (N := 65) Tryz.ntmps126 rfl ?_
      rintro _ _ ⟨rfl, rfl⟩
      refine goB (N := 65) Tryz.ntmps126 300 ?_
      simp only [go_sem, q1, q2]
      exact aret [4] rfl ⟨rfl, rfl⟩
    | true =>
      simp only [if_true]
      simp only [go_sem, e0, hk2]
      repeat refine And.intro (by first | omega | rfl | (simp; done) | (simp; omega)) ?_
      refine acall (hbor) (N := 65) Tryz.ntmps126 rfl ?_
      rintro _ _ ⟨rfl, rfl⟩
      refine goB (N := 65) Tryz.ntmps126 300 ?_
      simp only [go_sem, q1, q2]
      refine aloop (ι := Nat × Int) (fun y => sc.paras.length - y.1)
        (fun y => [(46, .int .i64 y.1), (45, .int .i64 sc.paras.length), (44, .fz 2 (sc.paras.map paA)), (7, .int .i64 y.2)])
        (fun _ => [.arr 5 [.agg [.str sc.no, .int .i64 sc.place, .str sc.set, .int .i64 sc.time, .fz 2 (sc.paras.map paA)]]])
        (fun y => y.1 ≤ sc.paras.length ∧ runL y.2 (sc.paras.drop y.1) = some e ∧ parasR (sc.paras.drop y.1) = parasR sc.paras) (0, 0) ⟨by simp, hr, by simp⟩ ?_ ?_
      · refine Shift.weakS ?_ rfl
        simp only [wk, go_sem, List.length_map]
      · rintro ⟨i, l⟩ ⟨g1, g2, g3⟩ J hJ
        simp only at g1 g2 g3 hJ ⊢
        by_cases gi : i < sc.paras.length
        · have di : decide ((i : Int) < (sc.paras.length : Int)) = true := by simp; omega
          have hdr : sc.paras.drop i = sc.paras[i] :: sc.paras.drop (i + 1) := List.drop_eq_getElem_cons gi
          rw [hdr] at g2 g3
          simp only [runL] at g2
          split at g2
          rotate_left
          · cases g2
          rename_i hp
          simp only [Bool.and_eq_true] at hp
          have hpf := paraR_pch hS sc.paras[i] l hp.1 hp.2
          simp only [paA] at hpf
          simp only [parasR] at g3
          refine goB (N := 65) Tryz.ntmps126 300 ?_
          simp only [go_sem, di, paA_get sc.paras i gi, List.length_map]
          repeat refine And.intro (by first | omega | rfl | (simp; done) | (simp; omega)) ?_
          refine pcallH1 hg (hpf) rfl (N := 65) Tryz.ntmps126 rfl (goB (N := 65) Tryz.ntmps126 300 ?_)
          cases e6 : paraR sc.paras[i] != 0 with
          | true =>
            rw [e6] at g3
            simp only [go_sem, e6]
            exact aret [4] rfl ⟨by rw [← g3]; rfl, rfl⟩
          | false =>
            rw [e6] at g3
            simp only [go_sem, e6]
            repeat refine And.intro (by first | omega | rfl | (simp; done) | (simp; omega)) ?_
            rw [show (i : Int) + 1 = ((i + 1 : Nat) : Int) by omega]
            refine ainv (hJ (i + 1, sc.paras[i].kind) ⟨by simp only; omega, g2, g3⟩ (by simp only; omega)) (Shift.low 1 (by simp) (by simp) ?_ ?_)
            · simp only [List.take_succ_cons, List.take_zero, List.all_cons, List.all_nil, lowB, flat, cellsOf, lowC, Av.frozen, List.append_nil, Bool.and_self]
            · simp only [wkl, lowV, lowC, Av.get, go_sem]
        · have di : decide ((i : Int) < (sc.paras.length : Int)) = false := by simp; omega
          have : i = sc.paras.length := by omega
          subst this
          rw [List.drop_length] at g2 g3
          simp only [runL, Option.some.injEq] at g2
          subst g2
          have q2 : (l == 2) = false := by simpa using h2
          have q3 : (l == 3) = false := by simpa using h3
          refine goB (N := 65) Tryz.ntmps126 300 ?_
          simp only [go_sem, di, q2, q3]
          exact aret [4] rfl ⟨by rw [← g3]; rfl, rfl⟩

def scenesR : List Sc → Int
  | [] => 0
  | x :: r => if sceneR x != 0 then sceneR x else scenesR r
def scriptR (x : Sr) : Int := if plainR x.title then scenesR x.scenes else 3
theorem story_sum {x : Sr} (h : StoryOk x) : paraSum x.scenes ≤ 300 := by
  have h1 := sum_le x.scenes (fun z hz => by
    obtain ⟨i, hi, rfl⟩ := List.getElem_of_mem hz
    exact (h.all i hi).len)
  have := h.len
  omega
set_option maxHeartbeats 2000000 in
theorem scriptR_pch {S : Std} (hS : LibR S) (x : Sr) (hx : StoryOk x) : PcH Tryz.prog S 72 [srA x] (· = .int .i64 (scriptR x)) := by
  have htb := title_bd _ hx.title
  have hlen := hx.len
  have hsum := story_sum hx
  have h1 := longR_pc x.title 1 60
  have hl : longR x.title 1 60 = true := by simp [longR]; omega
  rw [hl] at h1
  have h2 := plainR_pch hS x.title (by omega)
  have hsf := fun k hk => sceneR_pch hS x hx k hk
  have hres : (if plainR x.title then scenesR x.scenes else 3) = scriptR x := rfl
  rw [← hres]
  obtain ⟨ti, xs⟩ := x
  simp only at htb hlen hsum h1 h2 hsf ⊢
  simp only [srA]
  refine pch_intro (cth_intro Tryz.func72 rfl Tryz.ntmps72 hB72 (by simp) fun h ρ w hg => goB (N := 53) Tryz.ntmps72 300 ?_)
  simp only [go_sem]
  refine pcall1 (h1) rfl (N := 53) Tryz.ntmps72 rfl (goB (N := 53) Tryz.ntmps72 300 ?_)
  simp only [go_sem]
  refine pcallH1 hg (h2) rfl (N := 53) Tryz.ntmps72 rfl (goB (N := 53) Tryz.ntmps72 300 ?_)
  cases e1 : plainR ti with
  | false =>
    simp only [go_sem]
    exact aret [2] rfl ⟨rfl, rfl⟩
  | true =>
    simp only [if_true]
    simp only [go_sem]
    refine aloop (ι := Nat) (fun i => xs.length - i)
      (fun i => [(21, .int .i64 i), (20, .int .i64 xs.length), (19, .fz 5 (xs.map scA)), (3, .int .i64 (paraSum (xs.take i))), (1, .pin 2 [.agg [.str ti, .fz 5 (xs.map scA)]] 0 0)])
      (fun _ => []) (fun i => i ≤ xs.length) 0 (by simp) ?_ ?_
    · refine Shift.weakS ?_ rfl
      simp only [wk, go_sem, List.length_map]
      simp [paraSum]
    · intro i g1 J hJ
      by_cases gi : i < xs.length
      · have di : decide ((i : Int) < (xs.length : Int)) = true := by simp; omega
        have hs := paraSum_take xs i gi
        have hle := paraSum_take_le xs (i + 1)
        refine goB (N := 53) Tryz.ntmps72 300 ?_
        simp only [go_sem, di, scA_get xs i gi, List.length_map]
        repeat refine And.intro (by first | omega | rfl | (simp; done) | (simp; omega)) ?_
        rw [show (paraSum (xs.take i) : Int) + (xs[i].paras.length : Int) = (paraSum (xs.take (i + 1)) : Int) by omega, show (i : Int) + 1 = ((i + 1 : Nat) : Int) by omega]
        refine ainv (hJ (i + 1) (by omega) (by omega)) (Shift.low 0 (by simp) (by simp) ?_ ?_)
        · simp only [List.take_zero, List.all_nil]
        · simp only [wkl, lowV, lowC, Av.get, go_sem]
      · have di : decide ((i : Int) < (xs.length : Int)) = false := by simp; omega
        have : i = xs.length := by omega
        subst this
        rw [List.take_length]
        have d3 : decide ((xs.length : Int) > 300) = false := by simp; omega
        have d4 : decide ((paraSum xs : Int) > 4000) = false := by simp; omega
        refine goB (N := 53) Tryz.ntmps72 300 ?_
        simp only [go_sem, di, d3, d4, List.length_map]
        refine aloop (ι := Nat) (fun y => xs.length - y)
          (fun y => [(42, .int .i64 y), (41, .int .i64 xs.length), (1, .pin 2 [.agg [.str ti, .fz 5 (xs.map scA)]] 0 0)])
          (fun y => []) (fun y => y ≤ xs.length ∧ scenesR (xs.drop y) = scenesR xs) 0 ⟨by simp, by simp⟩ ?_ ?_
        · refine Shift.weakS ?_ rfl
          simp only [wk, go_sem]
        · clear hJ J
          rintro i ⟨g1, g2⟩ J hJ
          by_cases gi : i < xs.length
          · have di : decide ((i : Int) < (xs.length : Int)) = true := by simp; omega
            have hd : xs.drop i = xs[i] :: xs.drop (i + 1) := List.drop_eq_getElem_cons gi
            rw [hd] at g2
            simp only [scenesR] at g2
            refine goB (N := 53) Tryz.ntmps72 300 ?_
            simp only [go_sem, di]
            refine pcallH1 hg (hsf i gi) rfl (N := 53) Tryz.ntmps72 rfl (goB (N := 53) Tryz.ntmps72 300 ?_)
            cases e6 : sceneR xs[i] != 0 with
            | true =>
              rw [e6] at g2
              simp only [go_sem, e6]
              exact aret [2] rfl ⟨by rw [← g2]; rfl, rfl⟩
            | false =>
              rw [e6] at g2
              simp only [go_sem, e6]
              repeat refine And.intro (by first | omega | rfl | (simp; done) | (simp; omega)) ?_
              rw [show (i : Int) + 1 = ((i + 1 : Nat) : Int) by omega]
              refine ainv (hJ (i + 1) ⟨by omega, g2⟩ (by omega)) (Shift.weakS ?_ rfl)
              simp only [wk, go_sem]
          · have di : decide ((i : Int) < (xs.length : Int)) = false := by simp; omega
            have : i = xs.length := by omega
            subst this
            rw [List.drop_length] at g2
            refine goB (N := 53) Tryz.ntmps72 300 ?_
            simp only [go_sem, di]
            exact aret [2] rfl ⟨by rw [← g2]; rfl, rfl⟩
theorem noNo_pc (x : Sc) : Pc Tryz.prog 150 [scA x] (· = .bool (x.no == [])) := by
  simp only [scA]
  refine pc_intro (ct_intro Tryz.func150 rfl Tryz.ntmps150 hB150 (by simp) fun h ρ w => goB (N := 6) Tryz.ntmps150 300 ?_)
  simp only [go_sem]
  exact aret [2] rfl ⟨rfl, rfl⟩
theorem story_nos {x : Sr} (hx : StoryOk x) : (x.scenes.any fun y => y.no == []) = false := by
  rw [List.any_eq_false]
  intro y hy
  obtain ⟨i, hi, rfl⟩ := List.getElem_of_mem hy
  rw [hx.no i hi]
  have := hx.len
  have := (no_facts i (by omega)).2.2.2.2
  simp [this]
theorem storyR_pch {S : Std} (hS : LibR S) (x : Sr) (hx : StoryOk x) : PcH Tryz.prog S 91 [srA x] (· = .int .i64 (scriptR x)) := by
  have h1 := scriptR_pch hS x hx
  have h2 := anySc_pc 150 [] rfl (fun y => y.no == []) x.scenes (by have := hx.len; omega) (fun y _ => noNo_pc y)
  rw [story_nos hx] at h2
  simp only [srA] at h1 ⊢
  refine pch_intro (cth_intro Tryz.func91 rfl Tryz.ntmps91 hB91 (by simp) fun h ρ w hg => goB (N := 12) Tryz.ntmps91 300 ?_)
  simp only [go_sem]
  refine pcallH1 hg (h1) rfl (N := 12) Tryz.ntmps91 rfl (goB (N := 12) Tryz.ntmps91 300 ?_)
  cases e1 : scriptR x != 0 with
  | true =>
    simp only [go_sem, e1]
    exact aret [2] rfl ⟨rfl, rfl⟩
  | false =>
    simp only [go_sem, e1]
    refine pcall1 (h2) rfl (N := 12) Tryz.ntmps91 rfl (goB (N := 12) Tryz.ntmps91 300 ?_)
    simp only [go_sem]
    exact aret [2] rfl ⟨by have : scriptR x = 0 := by simpa using e1
                           rw [this]; rfl, rfl⟩
end Go.Proofs.YtkfpiadgjbhcpaaGreatDoor
