/- The walk within a round of a range over a function, and behind such a range. Own work of this seat (written by a program out of AvH, AvJ, AvJi, AvY). -/
import Derived.Test.YtkfpiadgjbhcpaaGreatDoorE24
import Derived.Test.YtkfpiadgjbhcpaaGreatDoorE18
import Derived.RangeFuncRecord
import Derived.RangeFuncIn
import Derived.Sort.LoopGhostIn
import Derived.OrdersIn
import Derived.TacticsIn
import Derived.RangeFuncLeaves
import Derived.RangeFuncOwn
import Derived.Test.YtkfpiadgjbhcpaaGreatDoorE14
set_option linter.unusedSimpArgs false
set_option linter.unusedVariables false
set_option linter.unusedSectionVars false
namespace Go.Av
open Go Go.RowKit
variable [Tr]

/-- a round's frame (or one behind a range): 'rd' the loop's record, 'df' the calls deferred, 'out' what is asked where the code is left -/
structure Cr where
  c : Cx
  rd : Option Nat
  df : List Deferred
  out : Exit → Act → World → Prop
def Cr.F (r : Cr) : Fence := { fn := fun _ => True, depth := none, alive := false, round := r.rd }
def WQg (F : Fence) (P : Program) (N : Nat) (out : Exit → Act → World → Prop) : List It → Exit → Act → World → Prop
  | [], e, a, w => out e a w
  | x :: k, e, a, w => match e with
    | .normal => match x with
      | .ops all rest => wpListIn F 0 P all.toArray (WQg F P N out k) rest a w
      | .op all o rest => dOk N o.dst = true → o.wpIn F 0 P a w (wpListIn F 0 P all.toArray (WQg F P N out k) rest) (WQg F P N out k)
      | .code y => y.wpIn F 0 P (WQg F P N out k) a w
      | .blk _ => WQg F P N out k .normal a w
      | .inv J => J a w
    | .exit id => match x with
      | .blk i => if id = i then WQg F P N out k .normal a w else WQg F P N out k (.exit id) a w
      | _ => WQg F P N out k (.exit id) a w
    | e => WQg F P N out k e a w
@[reducible] def WQr (r : Cr) : List It → Exit → Act → World → Prop := WQg r.F r.c.P r.c.fn.ntmps r.out

def SimR (r : Cr) (e : Env) (s : List Blk) (a : Act) (w : World) : Prop :=
  ∃ h ρ, Mine h ρ s w ∧ Later r.c.h r.c.ρ r.c.sto r.c.w h ρ s w ∧ EnvOk h ρ s e a ∧ a.defers = r.df ∧ a.tmps.size = r.c.fn.ntmps ∧ r.c.x h ρ w
theorem SimR.sim {r : Cr} {e : Env} {s : List Blk} {a : Act} {w : World} (h : SimR r e s a w) : Sim r.c e s { a with defers := [] } w := by
  obtain ⟨h, ρ, a1, a2, a3, a4, a5, a6⟩ := h
  exact ⟨h, ρ, a1, a2, a3, rfl, a5, a6⟩
theorem Sim.simR {r : Cr} {e : Env} {s : List Blk} {a : Act} {w : World} (hd : a.defers = r.df) (h : Sim r.c e s { a with defers := [] } w) : SimR r e s a w := by
  obtain ⟨h, ρ, a1, a2, a3, a4, a5, a6⟩ := h
  exact ⟨h, ρ, a1, a2, a3, hd, a5, a6⟩
theorem Shift.r {r : Cr} {e e' : Env} {s s' : List Blk} (x : Shift r.c e s e' s') {a : Act} {w : World} (h : SimR r e s a w) : SimR r e' s' a w := by
  have hd : a.defers = r.df := by obtain ⟨_, _, _, _, _, hd, _⟩ := h; exact hd
  exact Sim.simR hd (x _ _ h.sim)

def AWpR (r : Cr) (k : List It) (e : Env) (s : List Blk) : Prop := ∀ a w, SimR r e s a w → WQr r k .normal a w
def AOut (r : Cr) (x : Exit) (e : Env) (s : List Blk) : Prop := ∀ a w, SimR r e s a w → r.out x a w
def ACallR (r : Cr) (f : FuncId) (args : List AV) (d : Option Tmp) (all os : List Oper) (k : List It) (e : Env) (s : List Blk) : Prop :=
  ∀ a w h ρ vs, Mine h ρ s w → Later r.c.h r.c.ρ r.c.sto r.c.w h ρ s w → EnvOk h ρ s e a → a.defers = r.df → a.tmps.size = r.c.fn.ntmps → r.c.x h ρ w → RL h (Lf ρ s) false vs args →
    hasBody r.c.P f = true ∧ Calls r.c.P f vs.toArray w fun en w' => match en with
      | .returned v => WQr r (.ops all os :: k) .normal (a.put d v) w'
      | _ => False

def resNR (r : Cr) (o : Oper) (all os : List Oper) (k : List It) (e : Env) (s : List Blk) : Res → Nx
  | .ok v => .go (.ops all os :: k) (put e o.dst v) s
  | .side p v => .side p (.ops all os :: k) (put e o.dst v) s
  | .sto p v s' => .side p (.ops all os :: k) (put e o.dst v) s'
  | .pick b x y => .two b (.ops all os :: k) (put e o.dst x) s (.ops all os :: k) (put e o.dst y) s
  | .call f args => .leaf (ACallR r f args o.dst all os k e s)
  | .anyb p => .leaf (p ∧ ∀ b, AWpR r (.ops all os :: k) (put e o.dst (.bool b)) s)
  | .stuck => .leaf (AWpR r (.op all o os :: k) e s)
def stopNR (r : Cr) (k : List It) (e : Env) (s : List Blk) : Nx := .leaf (AWpR r k e s)
def exitNR (r : Cr) (id : Nat) (e : Env) (s : List Blk) : Option (List It) → Nx
  | some k => .go k e s
  | none => .leaf (AOut r (.exit id) e s)
def step1R (wr frz : Bool) (N : Nat) (r : Cr) (k : List It) (e : Env) (s : List Blk) : Nx :=
  match k with
  | .ops _ [] :: k => .go k e s
  | .ops all (o :: os) :: k => bif dOk N o.dst then opN o all os k e s o.guard else .leaf False
  | .op all o os :: k => resNR r o all os k e s (xop wr frz r.c.P e s o.op)
  | .code .skip :: k => .go k e s
  | .code (.region id ops draw) :: k => bif draw then stopNR r (.code (.region id ops true) :: k) e s else .go (.ops ops.toList ops.toList :: k) e s
  | .code (.seq a b) :: k => .go (.code a :: .code b :: k) e s
  | .code (.cond x a b) :: k => condN a b k e s (ev e x)
  | .code (.block id x) :: k => .go (.code x :: .blk id :: k) e s
  | .code (.exit id) :: k => exitNR r id e s (exitIt id k)
  | .code .ret :: _ => .leaf (AOut r .ret e s)
  | .code x :: k => stopNR r (.code x :: k) e s
  | .blk _ :: k => .go k e s
  | .inv J :: k => stopNR r (.inv J :: k) e s
  | [] => .leaf (AOut r .normal e s)

mutual
def runR (wr frz : Bool) (N : Nat) (c : Cr) : Nat → List It → Env → List Blk → Prop
  | 0, k, e, s => AWpR c k e s
  | n + 1, k, e, s => contR wr frz N c n (step1R wr frz N c k e s)
def contR (wr frz : Bool) (N : Nat) (c : Cr) : Nat → Nx → Prop
  | n, .go k e s => runR wr frz N c n k e s
  | n, .two b k e s k' e' s' => brR wr frz N c n b k e s k' e' s'
  | n, .side p k e s => p ∧ runR wr frz N c n k e s
  | _, .leaf p => p
def brR (wr frz : Bool) (N : Nat) (c : Cr) : Nat → Bool → List It → Env → List Blk → List It → Env → List Blk → Prop
  | 0, b, k, e, s, k', e', s' => (b = true → AWpR c k e s) ∧ (b = false → AWpR c k' e' s')
  | n + 1, b, k, e, s, k', e', s' => (b = true → runR wr frz N c n k e s) ∧ (b = false → runR wr frz N c n k' e' s')
end
theorem brR_true {wr frz : Bool} {N : Nat} {c : Cr} {n : Nat} {k e s k' e' s'} : brR wr frz N c (n + 1) true k e s k' e' s' = runR wr frz N c n k e s := by rw [brR]; simp
theorem brR_false {wr frz : Bool} {N : Nat} {c : Cr} {n : Nat} {k e s k' e' s'} : brR wr frz N c (n + 1) false k e s k' e' s' = runR wr frz N c n k' e' s' := by rw [brR]; simp

section
variable {r : Cr} {k : List It} {e : Env} {s : List Blk}

theorem AWpR.shift {e' : Env} {s' : List Blk} (x : Shift r.c e s e' s') (h : AWpR r k e' s') : AWpR r k e s := fun a w hs => h a w (x.r hs)
theorem AOut.shift {y : Exit} {e' : Env} {s' : List Blk} (x : Shift r.c e s e' s') (h : AOut r y e' s') : AOut r y e s := fun a w hs => h a w (x.r hs)

end

section
variable {c : Cx} {e : Env} {s : List Blk}
/-! ### an open order: the text's order, with whatever follows -/
mutual
def dxk (c : Cx) (all : List Oper) (K : Env → List Blk → Prop) : Nat → List Oper → List AV → Env → List Blk → Prop
  | _, [], _, e, s => K e s
  | 0, _ :: _, _, _, _ => False
  | n + 1, o :: r, cs, e, s => dxkc c all K n (dgrd c all s o r cs e o.guard)
def dxkc (c : Cx) (all : List Oper) (K : Env → List Blk → Prop) : Nat → Dn → Prop
  | n, .go r cs e s => dxk c all K n r cs e s
  | n, .two b r cs e r' cs' e' s => dbrk c all K n b r cs e r' cs' e' s
  | n, .side p r cs e s => p ∧ dxk c all K n r cs e s
  | _, .fail => False
def dbrk (c : Cx) (all : List Oper) (K : Env → List Blk → Prop) : Nat → Bool → List Oper → List AV → Env → List Oper → List AV → Env → List Blk → Prop
  | 0, _, _, _, _, _, _, _, _ => False
  | n + 1, b, r, cs, e, r', cs', e', s => (b = true → dxk c all K n r cs e s) ∧ (b = false → dxk c all K n r' cs' e' s)
end
theorem dbrk_true {K : Env → List Blk → Prop} {all : List Oper} {n : Nat} {r cs e r' cs' e' s} : dbrk c all K (n + 1) true r cs e r' cs' e' s = dxk c all K n r cs e s := by rw [dbrk]; simp
theorem dbrk_false {K : Env → List Blk → Prop} {all : List Oper} {n : Nat} {r cs e r' cs' e' s} : dbrk c all K (n + 1) false r cs e r' cs' e' s = dxk c all K n r' cs' e' s := by rw [dbrk]; simp

theorem dxk_op {K : Env → List Blk → Prop} {all : List Oper} {n : Nat} {o : Oper} {r : List Oper} {cs : List AV} (hg : o.guard = none) (h : dxk c all K n (o :: r) cs e s) :
    ∃ cv v n' cs' s', DoesOp c s o cv e v s' ∧ dxk c all K n' r cs' (put e o.dst v) s' := by
  cases n with
  | zero => rw [dxk] at h; exact h.elim
  | succ n =>
    rw [dxk, hg] at h
    unfold dgrd at h
    unfold DoesOp
    revert h
    cases xop false true c.P e s o.op with
    | ok u => intro h; simp only [dres, dxkc] at h; exact ⟨.any, u, n, cs, s, ⟨rfl, rfl⟩, h⟩
    | side p u => intro h; simp only [dres, dxkc] at h; exact ⟨.any, u, n, cs, s, ⟨h.1, rfl, rfl⟩, h.2⟩
    | sto p u s' => intro h; simp only [dres, dxkc] at h; exact ⟨.any, u, n, cs, s', ⟨h.1.1, h.1.2, rfl, rfl⟩, h.2⟩
    | pick b x y =>
      intro h; simp only [dres, dxkc] at h
      cases n with
      | zero => rw [dbrk] at h; exact h.elim
      | succ n =>
      rw [dbrk] at h
      refine ⟨.any, _, n, cs, s, ⟨rfl, rfl⟩, ?_⟩
      cases b with
      | true => exact h.1 rfl
      | false => exact h.2 rfl
    | call f args =>
      intro h; simp only [dres] at h
      cases cs with
      | nil => simp only [dcall, dxkc] at h
      | cons cv cs => simp only [dcall, dxkc] at h; exact ⟨cv, cv, n, cs, s, ⟨h.1.1, h.1.2, rfl, rfl⟩, h.2⟩
    | anyb p => intro h; simp only [dres, dxkc] at h
    | stuck => intro h; simp only [dres, dxkc] at h

theorem dxk_step {K : Env → List Blk → Prop} {all : List Oper} {n : Nat} {o : Oper} {r : List Oper} {cs : List AV} (h : dxk c all K n (o :: r) cs e s) :
    ∃ cv v n' cs' s', Does c all.toArray s o cv e v s' ∧ dxk c all K n' r cs' (put e o.dst v) s' := by
  cases hg : o.guard with
  | none =>
    obtain ⟨cv, v, n', cs', s', h1, h2⟩ := dxk_op hg h
    exact ⟨cv, v, n', cs', s', by unfold Does; rw [hg]; exact h1, h2⟩
  | some jw =>
    obtain ⟨j, want⟩ := jw
    cases n with
    | zero => rw [dxk] at h; exact h.elim
    | succ n =>
      rw [dxk, hg] at h
      unfold dgrd dyld at h
      cases hy : yldD want e all[j]? with
      | none => simp only [hy, dxkc] at h
      | some b =>
        simp only [hy] at h
        have key : (b = want → ∃ n', dxk c all K n' ({ o with guard := none } :: r) cs e s) ∧ (b ≠ want → ∃ n', dxk c all K n' r cs (put e o.dst (.raw undef)) s) := by
          cases n with
          | zero => cases want <;> simp only [cond_true, cond_false, dxkc, dbrk] at h
          | succ n =>
            cases want <;> simp only [cond_true, cond_false, dxkc, dbrk] at h <;> cases b <;>
              first
              | exact ⟨fun _ => ⟨n, h.1 rfl⟩, fun hh => (hh rfl).elim⟩
              | exact ⟨fun _ => ⟨n, h.2 rfl⟩, fun hh => (hh rfl).elim⟩
              | exact ⟨fun hh => (by cases hh), fun _ => ⟨n, h.1 rfl⟩⟩
              | exact ⟨fun hh => (by cases hh), fun _ => ⟨n, h.2 rfl⟩⟩
        have hy' : yldD want e all.toArray[j]? = some b := by simpa using hy
        by_cases hb : b = want
        · obtain ⟨n1, h1⟩ := key.1 hb
          obtain ⟨cv, v, n', cs', s', h1, h2⟩ := dxk_op rfl h1
          refine ⟨cv, v, n', cs', s', ?_, h2⟩
          unfold Does
          rw [hg]
          simp only [hy']
          exact .inl ⟨hb, h1⟩
        · obtain ⟨n1, h1⟩ := key.2 hb
          refine ⟨.any, .raw undef, n1, cs, s, ?_, h1⟩
          unfold Does
          rw [hg]
          simp only [hy']
          exact .inr ⟨hb, trivial, trivial⟩

end

section
variable {r : Cr} {k : List It} {e : Env} {s : List Blk}
theorem SimR.eqv {e' : Env} {a : Act} {w : World} (h : Eqv e e') (hs : SimR r e s a w) : SimR r e' s a w := by
  obtain ⟨hh, ρ, hm, hl, he, hdf, hsz, hX⟩ := hs
  exact ⟨hh, ρ, hm, hl, fun t => by rw [← h t]; exact he t, hdf, hsz, hX⟩
theorem AWpR.eqv {e' : Env} (h : Eqv e e') (x : AWpR r k e s) : AWpR r k e' s := fun a w hs => x a w (hs.eqv fun t => (h t).symm)
theorem AWpR.K : ∀ e e' s, Eqv e e' → AWpR r k e s → AWpR r k e' s := fun _ _ _ h x => x.eqv h
end
end Go.Av
namespace Go.Av
open Go Go.RowKit
variable [Tr]

section
variable {h h' h0 : Mem} {ρ ρ' ρ0 : Own} {s s' s0 : List Blk} {w w' w0 : World}

theorem cell_putObj {l b o : Nat} {x : Obj} (hb : b ≠ l) : (w.putObj l x).cell? ⟨b, o, none⟩ = w.cell? ⟨b, o, none⟩ :=
  World.cell?_of_block (World.putObj_heap_other hb)
/-- a block that is no cells, and not of the table, turns -/
theorem Mine.putObj (m : Mine h ρ s w) {l : Nat} {o x : Obj} (hl : w.heap[l]? = some o) (hc : o.isCells = false) (hn : ∀ i t, ρ i ≠ some (l, t)) : Mine h ρ s (w.putObj l x) := by
  refine ⟨fun b i v e => ?_, fun id blk e => ?_, m.out, m.inj, m.disj⟩
  · have h1 := m.mem b i v e
    refine ⟨?_, h1.2⟩
    by_cases hb : b = l
    · subst hb
      exfalso
      have := h1.1
      simp only [World.cell?, hl] at this
      cases o <;> simp [Obj.isCells] at hc this
    · rw [cell_putObj hb]; exact h1.1
  · exact (m.own id blk e).mono (fun _ _ _ x => x) (fun _ _ x => x) rfl fun g t hg => World.putObj_heap_other fun e => hn id t (by rw [← e]; exact hg)
/-- .. and turns back -/
theorem Later.around {l : Nat} {o1 o2 : Obj} (hl : w.heap[l]? = some o1) (L : Later h ρ s (w.putObj l o2) h' ρ' s' w') : Later h ρ s w h' ρ' s' (w'.putObj l o1) := by
  have hlt : l < w.heap.size := (Array.getElem?_eq_some_iff.1 hl).1
  have hsz := L.size
  rw [World.putObj_size] at hsz
  refine ⟨L.hle, fun b o a e => by have := L.hnew b o a e; rwa [World.putObj_size] at this, L.keep, L.os, L.tape, ⟨L.output.1, Tr.trans (Tr.same (w' := w.putObj l o2) rfl) (Tr.trans L.output.2 (Tr.same rfl))⟩, by rw [World.putObj_size]; exact hsz, fun k hk hn => ?_, fun i g t e => by have := L.newown i g t e; rwa [World.putObj_size] at this⟩
  by_cases hkl : k = l
  · subst hkl
    rw [World.putObj_heap_same (by omega), hl]
  · rw [World.putObj_heap_other hkl, L.block k (by rw [World.putObj_size]; exact hk) hn, World.putObj_heap_other hkl]
end

/-- fewer slots, the table told in other words -/
theorem Shift.weakS {c : Cx} {e e' : Env} {s s' : List Blk} (h : wk e e') (hs : s = s') : Shift c e s e' s' := hs ▸ Shift.weak h

/-- blocks that hold just this, and are not of the table -/
def XB (l : List (Nat × Obj)) : Mem → Own → World → Prop := fun _ ρ w => ∀ p ∈ l, w.heap[p.1]? = some p.2 ∧ ∀ i t, ρ i ≠ some (p.1, t)
theorem stbB (l : List (Nat × Obj)) : Stb (XB l) where
  later := fun {h ρ sto w h' ρ' sto' w'} _ L x p hp => by
    obtain ⟨h1, h2⟩ := x p hp
    have hlt : p.1 < w.heap.size := (Array.getElem?_eq_some_iff.1 h1).1
    refine ⟨(L.block p.1 hlt h2).trans h1, fun i t e => ?_⟩
    rcases L.newown i p.1 t e with ⟨j, t', hj⟩ | hs
    · exact h2 j t' hj
    · omega
  fewer := fun hf x p hp => by
    obtain ⟨h1, h2⟩ := x p hp
    refine ⟨h1, fun i t e => ?_⟩
    obtain ⟨j, t', hj⟩ := hf i p.1 t e
    exact h2 j t' hj
def DfO (Ds : List Nat) : List (Nat × Obj) := Ds.map fun D => (D, .deferred (some []))
def dfs (Ds : List Nat) : List Deferred := Ds.map fun D => { target := .collected D, args := #[] }

/-- the context of a round; of code behind ranges -/
def outM (P : Program) (fn : Func) (h : Mem) (ρ : Own) (sto : List Blk) (w : World) (post : AV → List Blk → Prop) : Exit → Act → World → Prop :=
  bodyPostM Fence.wide 0 P fn fun en w' => ∃ v r s h' ρ', en = .returned v ∧ post r s ∧ Mine h' ρ' s w' ∧ Later h ρ sto w h' ρ' s w' ∧ RV h' (Lf ρ' s) false v r
@[reducible] def mkM (P : Program) (fn : Func) (h : Mem) (ρ : Own) (sto : List Blk) (w : World) (post : AV → List Blk → Prop) (Ds : List Nat) : Cr :=
  ⟨⟨P, fn, h, ρ, sto, w, post, XB (DfO Ds), stbB _⟩, none, dfs Ds, outM P fn h ρ sto w post⟩
@[reducible] def mkL (P : Program) (fn : Func) (h : Mem) (ρ : Own) (sto : List Blk) (w : World) (l : List (Nat × Obj)) (id : Nat) : Cr :=
  ⟨⟨P, fn, h, ρ, sto, w, fun _ _ => True, XB l, stbB l⟩, some id, [], fun _ _ _ => False⟩

end Go.Av
namespace Go.Av
open Go Go.RowKit
variable [Tr]

end Go.Av
