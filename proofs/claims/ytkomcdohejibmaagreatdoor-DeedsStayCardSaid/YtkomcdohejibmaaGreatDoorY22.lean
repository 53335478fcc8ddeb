/- The walk within a round of a range over a function, and behind such a range. Own work of this seat (written by a program out of AvH, AvJ, AvJi, AvY). -/
import Derived.Test.YtkomcdohejibmaaGreatDoorY21
import Derived.Test.YtkomcdohejibmaaGreatDoorY19
import Derived.RangeFuncRecord
import Derived.RangeFuncIn
import Derived.Sort.LoopGhostIn
import Derived.OrdersIn
import Derived.TacticsIn
import Derived.RangeFuncLeaves
import Derived.RangeFuncOwn
import Derived.Test.YtkomcdohejibmaaGreatDoorY17
import Derived.Test.YtkomcdohejibmaaGreatDoorY15
import Derived.Test.YtkomcdohejibmaaGreatDoorY20
import Derived.Test.YtkomcdohejibmaaGreatDoorY18
set_option linter.unusedSimpArgs false
set_option linter.unusedVariables false
set_option linter.unusedSectionVars false
namespace Go.Av
open Go Go.RowKit
variable [Tr]

/-- a round's frame (or one behind a range): 'rd' the loop's record, 'df' the calls deferred, 'out' what is asked where the code is left -/
structure Cr where
  c : Cx
  rd : Option Nat
  df : List Deferred
  out : Exit → Act → World → Prop
def Cr.F (r : Cr) : Fence := { fn := fun _ => True, depth := none, alive := false, round := r.rd }
def WQg (F : Fence) (P : Program) (N : Nat) (out : Exit → Act → World → Prop) : List It → Exit → Act → World → Prop
  | [], e, a, w => out e a w
  | x :: k, e, a, w => match e with
    | .normal => match x with
      | .ops all rest => wpListIn F 0 P all.toArray (WQg F P N out k) rest a w
      | .op all o rest => dOk N o.dst = true → o.wpIn F 0 P a w (wpListIn F 0 P all.toArray (WQg F P N out k) rest) (WQg F P N out k)
      | .code y => y.wpIn F 0 P (WQg F P N out k) a w
      | .blk _ => WQg F P N out k .normal a w
      | .inv J => J a w
    | .exit id => match x with
      | .blk i => if id = i then WQg F P N out k .normal a w else WQg F P N out k (.exit id) a w
      | _ => WQg F P N out k (.exit id) a w
    | e => WQg F P N out k e a w
@[reducible] def WQr (r : Cr) : List It → Exit → Act → World → Prop := WQg r.F r.c.P r.c.fn.ntmps r.out

def SimR (r : Cr) (e : Env) (s : List Blk) (a : Act) (w : World) : Prop :=
  ∃ h ρ, Mine h ρ s w ∧ Later r.c.h r.c.ρ r.c.sto r.c.w h ρ s w ∧ EnvOk h ρ s e a ∧ a.defers = r.df ∧ a.tmps.size = r.c.fn.ntmps ∧ r.c.x h ρ w
theorem SimR.sim {r : Cr} {e : Env} {s : List Blk} {a : Act} {w : World} (h : SimR r e s a w) : Sim r.c e s { a with defers := [] } w := by
  obtain ⟨h, ρ, a1, a2, a3, a4, a5, a6⟩ := h
  exact ⟨h, ρ, a1, a2, a3, rfl, a5, a6⟩
theorem Sim.simR {r : Cr} {e : Env} {s : List Blk} {a : Act} {w : World} (hd : a.defers = r.df) (h : Sim r.c e s { a with defers := [] } w) : SimR r e s a w := by
  obtain ⟨h, ρ, a1, a2, a3, a4, a5, a6⟩ := h
  exact ⟨h, ρ, a1, a2, a3, hd, a5, a6⟩
theorem Shift.r {r : Cr} {e e' : Env} {s s' : List Blk} (x : Shift r.c e s e' s') {a : Act} {w : World} (h : SimR r e s a w) : SimR r e' s' a w := by
  have hd : a.defers = r.df := by obtain ⟨_, _, _, _, _, hd, _⟩ := h; exact hd
  exact Sim.simR hd (x _ _ h.sim)

def AWpR (r : Cr) (k : List It) (e : Env) (s : List Blk) : Prop := ∀ a w, SimR r e s a w → WQr r k .normal a w
def AOut (r : Cr) (x : Exit) (e : Env) (s : List Blk) : Prop := ∀ a w, SimR r e s a w → r.out x a w
def ACallR (r : Cr) (f : FuncId) (args : List AV) (d : Option Tmp) (all os : List Oper) (k : List It) (e : Env) (s : List Blk) : Prop :=
  ∀ a w h ρ vs, Mine h ρ s w → Later r.c.h r.c.ρ r.c.sto r.c.w h ρ s w → EnvOk h ρ s e a → a.defers = r.df → a.tmps.size = r.c.fn.ntmps → r.c.x h ρ w → RL h (Lf ρ s) false vs args →
    hasBody r.c.P f = true ∧ Calls r.c.P f vs.toArray w fun en w' => match en with
      | .returned v => WQr r (.ops all os :: k) .normal (a.put d v) w'
      | _ => False

def resNR (r : Cr) (o : Oper) (all os : List Oper) (k : List It) (e : Env) (s : List Blk) : Res → Nx
  | .ok v => .go (.ops all os :: k) (put e o.dst v) s
  | .side p v => .side p (.ops all os :: k) (put e o.dst v) s
  | .sto p v s' => .side p (.ops all os :: k) (put e o.dst v) s'
  | .pick b x y => .two b (.ops all os :: k) (put e o.dst x) s (.ops all os :: k) (put e o.dst y) s
  | .call f args => .leaf (ACallR r f args o.dst all os k e s)
  | .anyb p => .leaf (p ∧ ∀ b, AWpR r (.ops all os :: k) (put e o.dst (.bool b)) s)
  | .stuck => .leaf (AWpR r (.op all o os :: k) e s)
def stopNR (r : Cr) (k : List It) (e : Env) (s : List Blk) : Nx := .leaf (AWpR r k e s)
def exitNR (r : Cr) (id : Nat) (e : Env) (s : List Blk) : Option (List It) → Nx
  | some k => .go k e s
  | none => .leaf (AOut r (.exit id) e s)
def step1R (wr frz : Bool) (N : Nat) (r : Cr) (k : List It) (e : Env) (s : List Blk) : Nx :=
  match k with
  | .ops _ [] :: k => .go k e s
  | .ops all (o :: os) :: k => bif dOk N o.dst then opN o all os k e s o.guard else .leaf False
  | .op all o os :: k => resNR r o all os k e s (xop wr frz r.c.P e s o.op)
  | .code .skip :: k => .go k e s
  | .code (.region id ops draw) :: k => bif draw then stopNR r (.code (.region id ops true) :: k) e s else .go (.ops ops.toList ops.toList :: k) e s
  | .code (.seq a b) :: k => .go (.code a :: .code b :: k) e s
  | .code (.cond x a b) :: k => condN a b k e s (ev e x)
  | .code (.block id x) :: k => .go (.code x :: .blk id :: k) e s
  | .code (.exit id) :: k => exitNR r id e s (exitIt id k)
  | .code .ret :: _ => .leaf (AOut r .ret e s)
  | .code x :: k => stopNR r (.code x :: k) e s
  | .blk _ :: k => .go k e s
  | .inv J :: k => stopNR r (.inv J :: k) e s
  | [] => .leaf (AOut r .normal e s)

mutual
def runR (wr frz : Bool) (N : Nat) (c : Cr) : Nat → List It → Env → List Blk → Prop
  | 0, k, e, s => AWpR c k e s
  | n + 1, k, e, s => contR wr frz N c n (step1R wr frz N c k e s)
def contR (wr frz : Bool) (N : Nat) (c : Cr) : Nat → Nx → Prop
  | n, .go k e s => runR wr frz N c n k e s
  | n, .two b k e s k' e' s' => brR wr frz N c n b k e s k' e' s'
  | n, .side p k e s => p ∧ runR wr frz N c n k e s
  | _, .leaf p => p
def brR (wr frz : Bool) (N : Nat) (c : Cr) : Nat → Bool → List It → Env → List Blk → List It → Env → List Blk → Prop
  | 0, b, k, e, s, k', e', s' => (b = true → AWpR c k e s) ∧ (b = false → AWpR c k' e' s')
  | n + 1, b, k, e, s, k', e', s' => (b = true → runR wr frz N c n k e s) ∧ (b = false → runR wr frz N c n k' e' s')
end
section
variable {r : Cr} {k : List It} {e : Env} {s : List Blk}

theorem AWpR.shift {e' : Env} {s' : List Blk} (x : Shift r.c e s e' s') (h : AWpR r k e' s') : AWpR r k e s := fun a w hs => h a w (x.r hs)
theorem AOut.shift {y : Exit} {e' : Env} {s' : List Blk} (x : Shift r.c e s e' s') (h : AOut r y e' s') : AOut r y e s := fun a w hs => h a w (x.r hs)

end

section
variable {c : Cx} {e : Env} {s : List Blk}
/-! ### an open order: the text's order, with whatever follows -/
mutual
def dxk (c : Cx) (all : List Oper) (K : Env → List Blk → Prop) : Nat → List Oper → List AV → Env → List Blk → Prop
  | _, [], _, e, s => K e s
  | 0, _ :: _, _, _, _ => False
  | n + 1, o :: r, cs, e, s => dxkc c all K n (dgrd c all s o r cs e o.guard)
def dxkc (c : Cx) (all : List Oper) (K : Env → List Blk → Prop) : Nat → Dn → Prop
  | n, .go r cs e s => dxk c all K n r cs e s
  | n, .two b r cs e r' cs' e' s => dbrk c all K n b r cs e r' cs' e' s
  | n, .side p r cs e s => p ∧ dxk c all K n r cs e s
  | _, .fail => False
def dbrk (c : Cx) (all : List Oper) (K : Env → List Blk → Prop) : Nat → Bool → List Oper → List AV → Env → List Oper → List AV → Env → List Blk → Prop
  | 0, _, _, _, _, _, _, _, _ => False
  | n + 1, b, r, cs, e, r', cs', e', s => (b = true → dxk c all K n r cs e s) ∧ (b = false → dxk c all K n r' cs' e' s)
end
end

section
variable {r : Cr} {k : List It} {e : Env} {s : List Blk}
theorem SimR.eqv {e' : Env} {a : Act} {w : World} (h : Eqv e e') (hs : SimR r e s a w) : SimR r e' s a w := by
  obtain ⟨hh, ρ, hm, hl, he, hdf, hsz, hX⟩ := hs
  exact ⟨hh, ρ, hm, hl, fun t => by rw [← h t]; exact he t, hdf, hsz, hX⟩
theorem AWpR.eqv {e' : Env} (h : Eqv e e') (x : AWpR r k e s) : AWpR r k e' s := fun a w hs => x a w (hs.eqv fun t => (h t).symm)
theorem AWpR.K : ∀ e e' s, Eqv e e' → AWpR r k e s → AWpR r k e' s := fun _ _ _ h x => x.eqv h
end
end Go.Av
/- Statements whose order is open and whose last operation waits for all others: it may be whatever operation. Own work of this seat. -/
set_option linter.unusedSimpArgs false
set_option linter.unusedVariables false
set_option linter.unusedSectionVars false
namespace Go.Av
open Go Go.RowKit
variable [Tr]

section
variable {c : Cx} {k : List It} {e : Env} {s : List Blk}
def KLast (c : Cx) (k : List It) (ops : List Oper) (last : Oper) (e : Env) (s : List Blk) : Prop := AWp c (.op ops last [] :: k) e s
theorem KLast.K {ops : List Oper} {last : Oper} : ∀ e e' s, Eqv e e' → KLast c k ops last e s → KLast c k ops last e' s := fun _ _ _ h x => AWp.eqv h x
end
end Go.Av
/- A range over a function: the rule, for a caller whose body is walked in plain data; the iterator's contract; the function's end. Own work of this seat. -/
set_option linter.unusedSimpArgs false
set_option linter.unusedVariables false
set_option linter.unusedSectionVars false
namespace Go.Av
open Go Go.RowKit
variable [Tr]

section
variable {h h' h0 : Mem} {ρ ρ' ρ0 : Own} {s s' s0 : List Blk} {w w' w0 : World}

theorem cell_putObj {l b o : Nat} {x : Obj} (hb : b ≠ l) : (w.putObj l x).cell? ⟨b, o, none⟩ = w.cell? ⟨b, o, none⟩ :=
  World.cell?_of_block (World.putObj_heap_other hb)
/-- a block that is no cells, and not of the table, turns -/
theorem Mine.putObj (m : Mine h ρ s w) {l : Nat} {o x : Obj} (hl : w.heap[l]? = some o) (hc : o.isCells = false) (hn : ∀ i t, ρ i ≠ some (l, t)) : Mine h ρ s (w.putObj l x) := by
  refine ⟨fun b i v e => ?_, fun id blk e => ?_, m.out, m.inj, m.disj⟩
  · have h1 := m.mem b i v e
    refine ⟨?_, h1.2⟩
    by_cases hb : b = l
    · subst hb
      exfalso
      have := h1.1
      simp only [World.cell?, hl] at this
      cases o <;> simp [Obj.isCells] at hc this
    · rw [cell_putObj hb]; exact h1.1
  · exact (m.own id blk e).mono (fun _ _ _ x => x) (fun _ _ x => x) rfl fun g t hg => World.putObj_heap_other fun e => hn id t (by rw [← e]; exact hg)
/-- .. and turns back -/
theorem Later.around {l : Nat} {o1 o2 : Obj} (hl : w.heap[l]? = some o1) (L : Later h ρ s (w.putObj l o2) h' ρ' s' w') : Later h ρ s w h' ρ' s' (w'.putObj l o1) := by
  have hlt : l < w.heap.size := (Array.getElem?_eq_some_iff.1 hl).1
  have hsz := L.size
  rw [World.putObj_size] at hsz
  refine ⟨L.hle, fun b o a e => by have := L.hnew b o a e; rwa [World.putObj_size] at this, L.keep, L.os, L.tape, ⟨L.output.1, Tr.trans (Tr.same (w' := w.putObj l o2) rfl) (Tr.trans L.output.2 (Tr.same rfl))⟩, by rw [World.putObj_size]; exact hsz, fun k hk hn => ?_, fun i g t e => by have := L.newown i g t e; rwa [World.putObj_size] at this⟩
  by_cases hkl : k = l
  · subst hkl
    rw [World.putObj_heap_same (by omega), hl]
  · rw [World.putObj_heap_other hkl, L.block k (by rw [World.putObj_size]; exact hk) hn, World.putObj_heap_other hkl]
end

/-- fewer slots, the table told in other words -/
theorem Shift.weakS {c : Cx} {e e' : Env} {s s' : List Blk} (h : wk e e') (hs : s = s') : Shift c e s e' s' := hs ▸ Shift.weak h

/-- blocks that hold just this, and are not of the table -/
def XB (l : List (Nat × Obj)) : Mem → Own → World → Prop := fun _ ρ w => ∀ p ∈ l, w.heap[p.1]? = some p.2 ∧ ∀ i t, ρ i ≠ some (p.1, t)
theorem stbB (l : List (Nat × Obj)) : Stb (XB l) where
  later := fun {h ρ sto w h' ρ' sto' w'} _ L x p hp => by
    obtain ⟨h1, h2⟩ := x p hp
    have hlt : p.1 < w.heap.size := (Array.getElem?_eq_some_iff.1 h1).1
    refine ⟨(L.block p.1 hlt h2).trans h1, fun i t e => ?_⟩
    rcases L.newown i p.1 t e with ⟨j, t', hj⟩ | hs
    · exact h2 j t' hj
    · omega
  fewer := fun hf x p hp => by
    obtain ⟨h1, h2⟩ := x p hp
    refine ⟨h1, fun i t e => ?_⟩
    obtain ⟨j, t', hj⟩ := hf i p.1 t e
    exact h2 j t' hj
def DfO (Ds : List Nat) : List (Nat × Obj) := Ds.map fun D => (D, .deferred (some []))
def dfs (Ds : List Nat) : List Deferred := Ds.map fun D => { target := .collected D, args := #[] }

/-- the context of a round; of code behind ranges -/
def outM (P : Program) (fn : Func) (h : Mem) (ρ : Own) (sto : List Blk) (w : World) (post : AV → List Blk → Prop) : Exit → Act → World → Prop :=
  bodyPostM Fence.wide 0 P fn fun en w' => ∃ v r s h' ρ', en = .returned v ∧ post r s ∧ Mine h' ρ' s w' ∧ Later h ρ sto w h' ρ' s w' ∧ RV h' (Lf ρ' s) false v r
@[reducible] def mkM (P : Program) (fn : Func) (h : Mem) (ρ : Own) (sto : List Blk) (w : World) (post : AV → List Blk → Prop) (Ds : List Nat) : Cr :=
  ⟨⟨P, fn, h, ρ, sto, w, post, XB (DfO Ds), stbB _⟩, none, dfs Ds, outM P fn h ρ sto w post⟩
@[reducible] def mkL (P : Program) (fn : Func) (h : Mem) (ρ : Own) (sto : List Blk) (w : World) (l : List (Nat × Obj)) (id : Nat) : Cr :=
  ⟨⟨P, fn, h, ρ, sto, w, fun _ _ => True, XB l, stbB l⟩, some id, [], fun _ _ _ => False⟩

theorem call_enters {P : Program} {f : FuncId} (hb : hasBody P f = true) (args : Array Value) (w : World) : (callFunc f args).run P w = .ok (.enter f args) w := by
  unfold hasBody at hb
  cases hq : P.funcs[f]? with
  | none => simp [hq] at hb
  | some fn =>
    simp only [hq] at hb
    have h3 : (fn.name == "runtime.NumGoroutine") = false := by cases h : fn.name == "runtime.NumGoroutine" <;> simp_all
    have h4 : fn.body.isNone = false := by cases h : fn.body <;> simp_all
    unfold callFunc
    simp only [Sem.run_bind, run_program, Result.andThen_ok, hq, h3, h4, Bool.false_eq_true, if_false, Sem.run_pure]

end Go.Av
/- A call that makes one new block, told as one that fills a block set aside. Own work of this seat. -/
set_option linter.unusedSimpArgs false
set_option linter.unusedVariables false
set_option linter.unusedSectionVars false
namespace Go.Av
open Go Go.RowKit
variable [Tr]

theorem Ct.fill {P : Program} {f : FuncId} {args : List AV} {n es : Nat} {l : List AV} (hc : Ct P f args [] (fun r s => r = .sl 0 0 n n ∧ s = [.arr es l])) (hn : 0 < n) (hlen : l.length = n) (ha : args.all frozen = true) (hf : (flat l).all frozen = true)
    {s : List Blk} {id : Nat} (hid : s[id]? = some (.arr es [])) : Ct P f args s (fun r s' => r = .sl id 0 n n ∧ s' = s.set id (.arr es l)) := by
  refine ⟨hc.1, fun h ρ w vs m r => ?_⟩
  have hs := hid
  have hidl := (List.getElem?_eq_some_iff.1 hs).1
  have hm0 : Mine h (fun _ => none) [] w := ⟨m.mem, fun id blk e => by simp at e, fun _ _ => rfl, fun i j g t t' e => by simp at e, fun i g t e => by simp at e⟩
  refine (hc.2 h (fun _ => none) w vs hm0 (rl_frozen ha r)).mono ?_
  rintro en w' ⟨v, r, s1, h', ρ1, rfl, ⟨rfl, rfl⟩, m', lt, rv⟩
  have hne : l ≠ [] := by intro h; rw [h] at hlen; simp at hlen; omega
  have hgood : ∀ i g t, ρ1 i = some (g, t) → w.heap.size ≤ g := fun i g t e => by
    rcases lt.newown i g t e with ⟨j, t', hj⟩ | h
    · cases hj
    · exact h
  have hblk : ∀ k, k < w.heap.size → w'.heap[k]? = w.heap[k]? := fun k hk => lt.block k hk (fun i t e => by cases e)
  have hnew : ∀ b o, h b o = none → h' b o ≠ none → w.heap.size ≤ b := fun b o e n => by
    rcases lt.hnew b o e n with ⟨j, t', hj⟩ | h
    · cases hj
    · exact h
  have hρ : ∀ i, i ≠ id → upd ρ id (ρ1 0) i = ρ i := fun i hi => by simp [upd, hi]
  have hρi : upd ρ id (ρ1 0) id = ρ1 0 := by simp [upd]
  have hkeep : ∀ v a, Lf ρ s v a → Lf (upd ρ id (ρ1 0)) (s.set id (.arr es l)) v a := fun v a x => ⟨x.1, LfC_set (b' := .arr es l) hs hρ (Or.inr (by
    rw [hlen]; exact hn)) x.2⟩
  have hown : ∀ i g t, upd ρ id (ρ1 0) i = some (g, t) → (i ≠ id ∧ ρ i = some (g, t) ∧ g < w.heap.size) ∨ (i = id ∧ ρ1 0 = some (g, t) ∧ w.heap.size ≤ g) := fun i g t e => by
    by_cases hi : i = id
    · rw [hi, hρi] at e
      exact .inr ⟨hi, e, hgood 0 g t e⟩
    · rw [hρ i hi] at e
      exact .inl ⟨hi, e, m.lt e⟩
  refine ⟨v, _, _, h', upd ρ id (ρ1 0), rfl, ⟨rfl, rfl⟩, ⟨m'.mem, ?_, ?_, ?_, ?_⟩, ⟨lt.hle, fun b o e n => .inr (hnew b o e n), hkeep, lt.os, lt.tape, lt.output, lt.size, fun k hk _ => hblk k hk, ?_⟩, ?_⟩
  · intro i blk e
    by_cases hi : i = id
    · subst hi
      simp [hidl] at e
      subst e
      rcases m'.own 0 (.arr es l) rfl with ⟨h1, h2⟩ | ⟨g, tot, cur, t, h1, h2, h3, h4, h5, h6, h7, h8, h9⟩
      · exact (hne h1).elim
      · exact .inr ⟨g, tot, cur, t, hρi.trans h1, h2, h3, h4, h5, h6, h7, h8, rl_frozen hf h9⟩
    · rw [List.getElem?_set_ne (Ne.symm hi)] at e
      exact (m.own i blk e).mono lt.hle hkeep (hρ i hi) (fun g t hg => hblk g (m.lt hg))
  · intro i hi
    simp at hi
    rw [hρ i (by omega)]
    exact m.out i hi
  · intro i j g t t' hi hj
    rcases hown i g t hi with ⟨a1, a2, a3⟩ | ⟨a1, a2, a3⟩ <;> rcases hown j g t' hj with ⟨b1, b2, b3⟩ | ⟨b1, b2, b3⟩
    · exact m.inj i j g t t' a2 b2
    · omega
    · omega
    · omega
  · intro i g t e o
    rcases hown i g t e with ⟨a1, a2, a3⟩ | ⟨a1, a2, a3⟩
    · cases hq : h' g o with
      | none => rfl
      | some z =>
        have := hnew g o (m.disj i g t a2 o) (by rw [hq]; simp)
        omega
    · exact m'.disj 0 g t a2 o
  · intro i g t e
    rcases hown i g t e with ⟨a1, a2, a3⟩ | ⟨a1, a2, a3⟩
    · exact .inl ⟨i, t, a2⟩
    · exact .inr a3
  · have q := inv_sl rv
    exact .leaf ⟨q.1, LfC_at (blk := .arr es l) rfl (by simp [hidl]) hρi q.2⟩
end Go.Av
/- strings.Builder: a byte that is written. Own work of this seat. -/
set_option linter.unusedSimpArgs false
set_option linter.unusedVariables false
set_option linter.unusedSectionVars false
namespace Go.Av
open Go Go.RowKit

section
variable {T e : TypeId} {B b : Nat} {l : List UInt8} {c : Cx} {k : List It} {en : Env} {s : List Blk}

/-- what is said of the world: a builder's text -/
@[reducible] def Cx.bld (c : Cx) (T e : TypeId) (B b : Nat) (l : List UInt8) : Cx := { c with x := BldA T e B b l, hx := bld_stb T e B b l }

theorem bld_self {c : Cx} {T e : TypeId} {B b : Nat} {l : List UInt8} (hx : c.x = BldA T e B b l) : c.bld T e B b l = c := by
  cases c
  simp only at hx
  subst hx
  rfl

/-- a loop whose rounds write to a builder -/
theorem bloop {c : Cx} {k : List It} {T e : TypeId} {B b : Nat} {C : Code} {ι : Type} (μ : ι → Nat) (E : ι → Env) (S : ι → List Blk) (L : ι → List UInt8) (H : ι → Prop) (x0 : ι) (hx : c.x = BldA T e B b (L x0)) (hH : H x0) {en : Env} {s : List Blk}
    (hs : Shift c en s (E x0) (S x0))
    (step : ∀ x, H x → (∀ y, H y → μ y < μ x → ∀ l', l' = L y → ∀ e' s', Shift (c.bld T e B b l') e' s' (E y) (S y) → AWp (c.bld T e B b l') (.inv (Hd c.P C (WQ c k)) :: k) e' s') →
      AWp (c.bld T e B b (L x)) (.code C :: .inv (Hd c.P C (WQ c k)) :: k) (E x) (S x)) :
    AWp c (.code (.loop C) :: k) en s := by
  refine AWp.shift hs (aenter ?_)
  have key : ∀ n x, μ x = n → H x → AHd (c.bld T e B b (L x)) C k (E x) (S x) := by
    intro n
    induction n using Nat.strongRecOn with
    | _ n ih =>
      rintro x rfl hx
      have h1 := step x hx (fun y hy hlt l' hl' e' s' sh => by
        subst hl'
        exact AWp.shift sh (aagain_x (c0 := c) rfl (ih _ hlt y rfl hy)))
      have e1 : WQ (c.bld T e B b (L x)) k = WQ c k := WQ_x c _ _ k
      refine around ?_
      show AWp _ (.code C :: .inv (Hd c.P C (WQ (c.bld T e B b (L x)) k)) :: k) _ _
      rw [e1]
      exact h1
  have := key _ x0 rfl hH
  rwa [bld_self hx] at this
end
end Go.Av
/- The interpreter's words, told to the walk's simp set once. Own work of this seat. -/
set_option linter.unusedSimpArgs false
set_option linter.unusedVariables false
namespace Go.Proofs.YtkomcdohejibmaaGreatDoor
open Go Go.Av Go.RowKit
attribute [go_sem ↓] Go.Av.br_true Go.Av.br_false Go.Av.dbr_true Go.Av.dbr_false Go.Av.dbri_true Go.Av.dbri_false Go.Av.dbrg_true Go.Av.dbrg_false
attribute [go_sem] Go.Av.run Go.Av.cont Go.Av.br Go.Av.dbr Go.Av.dx Go.Av.dxc Go.Av.dgrd Go.Av.dyld Go.Av.dres Go.Av.dcall Go.Av.calm Go.Av.fieldPlace? Go.Av.allHas Go.Av.step1 Go.Av.opN Go.Av.grdN Go.Av.resN Go.Av.condN Go.Av.exitN Go.Av.stopN Go.Av.exitIt Go.Av.dOk Go.Av.xop Go.Av.xbin Go.Av.xint Go.Av.xarith Go.Av.xstr Go.Av.xbool Go.Av.xpick Go.Av.xnot Go.Av.xneg Go.Av.xextract Go.Av.xpart Go.Av.xpartOk Go.Av.xindex Go.Av.xfieldF Go.Av.fieldD Go.Av.xnew Go.Av.xbox Go.Av.xalloc Go.Av.xfieldAddr Go.Av.xptrAddIf Go.Av.xindexAddr Go.Av.xloadC Go.Av.xload Go.Av.putCells Go.Av.reElem Go.Av.xstoreB Go.Av.xstore Go.Av.xconv Go.Av.xtext Go.Av.xlen Go.Av.xlen2 Go.Av.xcall Go.Av.xfill Go.Av.xbuild Go.Av.cut Go.Av.rep Go.Av.xbuildSlice Go.Av.xbuildSliceD Go.Av.isRow Go.Av.elemD Go.Av.isU8 Go.Av.ev Go.Av.evs Go.Av.evp Go.Av.put Go.Av.get Go.Av.ofConst Go.Av.yldD Go.Av.yldV Go.Av.notBool_undef Go.Av.args0 Go.Av.cellsOf cond_true cond_false decide_true decide_false decide_eq_true_eq decide_eq_false_iff_not List.getElem?_cons_zero List.getElem?_cons_succ List.getElem?_nil List.getD_cons_zero List.getD_cons_succ List.getD_nil List.set_cons_zero List.set_cons_succ List.length_cons List.length_nil List.cons_append List.nil_append List.append_nil List.all_cons List.all_nil List.map_cons List.map_nil List.take_succ_cons List.take_zero List.drop_succ_cons List.drop_zero Bool.and_true Bool.true_and Bool.and_self Bool.and_false Bool.false_and Go.Av.one Go.Av.frozen beq_self_eq_true true_and and_true forall_const false_implies implies_true and_self Option.map_some Option.map_none Nat.zero_add Nat.add_zero Nat.zero_mul Nat.mul_one Nat.one_mul Int.toNat_zero ne_eq not_false_eq_true not_true_eq_false Bool.true_eq_false Bool.false_eq_true List.toList_toArray Go.Av.inr Go.Av.byteOf Go.Av.isByte decide_eq_decide Bool.not_true Bool.not_false Bool.not_eq_true' Bool.or_true Bool.true_or Bool.or_false Bool.false_or ge_iff_le gt_iff_lt and_assoc Bool.decide_eq_true beq_iff_eq beq_eq_false_iff_ne bne_iff_ne bne_self_eq_false if_true if_false Bool.and_eq_true Bool.or_eq_true Bool.and_eq_false_imp Bool.or_eq_false_iff Bool.not_eq_false' Go.Av.has Option.isSome_some Option.isSome_none Int.toNat_natCast Int.cast_ofNat_Int List.length_append Go.Av.xapp2 Go.Av.xapp Go.Av.xappS Go.Av.xappD Go.Av.xappB Go.Av.notInt Go.Av.srcOf Go.Av.srcB Go.Av.byteAV Go.Av.splice' Go.Av.xcut Go.Av.xcutS Go.Av.xcutF Go.Av.xcutB Go.Av.xcutN Go.Av.xcut0 Go.Av.cutL Go.Av.loOf Go.Av.hiOf Go.Av.evo Go.Av.xmake Go.Av.zelem Go.Av.xmax Go.Av.xcopy2 Go.Av.xcopyS Go.Av.xcopyB Go.Av.xnil Go.Av.xcut3 Go.Av.ixOf Go.Av.xclear2 Go.Av.xclearB List.getElem?_toArray Go.Av.xbin2 Go.Av.xnileq Go.Av.xempty Go.Av.xmkmap Go.Av.xmput Go.Av.xmputB Go.Av.xmputF Go.Av.isKey Go.Av.keyEq Go.Av.mfind Go.Av.xbin3 Go.Av.xeqs Go.Av.xeqop Go.Av.eqFs Go.Av.bothB Go.Av.leafEq Go.Av.xlook Go.Av.xlookB Go.Av.xlookF Go.Av.xbytes Go.Av.beq_c_n Go.Av.beq_n_c Go.Av.bne_c_n Go.Av.bne_n_c Go.Av.one_nil Go.Av.dxi Go.Av.dxic Go.Av.dbri Go.Av.rix Go.Av.dck Go.Av.reader Go.Av.blind Go.Av.opOk Go.Av.refOk Go.Op.operands Go.Call.operands List.contains_cons List.contains_nil Go.Av.dxg Go.Av.dxgc Go.Av.dbrg Go.Av.pck Go.Av.putD List.lookup_cons List.lookup_nil Go.Av.xboxF Go.Av.xbox2 Go.Av.keyEqS Go.Av.isKeyS Go.Av.mfindS Go.Av.xputS Go.Av.xmputS Go.Av.xlookS Go.Av.xmentryF Go.Av.xmentryB Go.Av.xmentry Go.Av.xestoreB Go.Av.xestore Go.Av.xrangeB Go.Av.xrange Go.Av.xentryB Go.Av.xentryI Go.Av.xentry Go.Av.frozen0 Go.Av.isI Go.Av.xappZ Go.Av.xcap Go.Av.xcap2 ts2 tb2 zv2 zk2 za2 Tryz.underlying2 ts3 tb3 zv3 zk3 za3 Tryz.underlying3 ts4 tb4 zv4 zk4 za4 Tryz.underlying4 ts5 tb5 zv5 zk5 za5 Tryz.underlying5 ts6 tb6 zv6 zk6 za6 Tryz.underlying6 ts7 tb7 zv7 zk7 za7 Tryz.underlying7 ts8 tb8 zv8 zk8 za8 Tryz.underlying8 ts9 tb9 zv9 zk9 za9 Tryz.underlying9 ts10 tb10 zv10 zk10 za10 Tryz.underlying10 ts11 tb11 zv11 zk11 za11 Tryz.underlying11 ts12 tb12 zv12 zk12 za12 Tryz.underlying12 ts13 tb13 zv13 zk13 za13 Tryz.underlying13 ts14 tb14 zv14 zk14 za14 Tryz.underlying14 ts18 tb18 zv18 zk18 za18 Tryz.underlying18 ts19 tb19 zv19 zk19 za19 Tryz.underlying19 ts21 tb21 zv21 zk21 za21 Tryz.underlying21 ts22 tb22 zv22 zk22 za22 Tryz.underlying22 ts24 tb24 zv24 zk24 za24 Tryz.underlying24 ts25 tb25 zv25 zk25 za25 Tryz.underlying25 ts26 tb26 zv26 zk26 za26 Tryz.underlying26 ts28 tb28 zv28 zk28 za28 Tryz.underlying28 ts32 tb32 zv32 zk32 za32 Tryz.underlying32 ts36 tb36 zv36 zk36 za36 Tryz.underlying36 ts37 tb37 zv37 zk37 za37 Tryz.underlying37 ts38 tb38 zv38 zk38 za38 Tryz.underlying38 ts39 tb39 zv39 zk39 za39 Tryz.underlying39 ts40 tb40 zv40 zk40 za40 Tryz.underlying40 ts41 tb41 zv41 zk41 za41 Tryz.underlying41 ts42 tb42 zv42 zk42 za42 Tryz.underlying42 ts43 tb43 zv43 zk43 za43 Tryz.underlying43 ts53 tb53 zv53 zk53 za53 Tryz.underlying53 ts61 tb61 zv61 zk61 za61 Tryz.underlying61 ts80 tb80 zv80 zk80 za80 Tryz.underlying80 ts107 tb107 zv107 zk107 za107 Tryz.underlying107 ts108 tb108 zv108 zk108 za108 Tryz.underlying108 ts113 tb113 zv113 zk113 za113 Tryz.underlying113 ts116 tb116 zv116 zk116 za116 Tryz.underlying116 ts123 tb123 zv123 zk123 za123 Tryz.underlying123 ts128 tb128 zv128 zk128 za128 Tryz.underlying128 ts141 tb141 zv141 zk141 za141 Tryz.underlying141 ts142 tb142 zv142 zk142 za142 Tryz.underlying142 ts144 tb144 zv144 zk144 za144 Tryz.underlying144 ts145 tb145 zv145 zk145 za145 Tryz.underlying145 ts146 tb146 zv146 zk146 za146 Tryz.underlying146 ts149 tb149 zv149 zk149 za149 Tryz.underlying149 ts158 tb158 zv158 zk158 za158 Tryz.underlying158 ts166 tb166 zv166 zk166 za166 Tryz.underlying166 ts168 tb168 zv168 zk168 za168 Tryz.underlying168 ts177 tb177 zv177 zk177 za177 Tryz.underlying177 ts179 tb179 zv179 zk179 za179 Tryz.underlying179 ts180 tb180 zv180 zk180 za180 Tryz.underlying180 ts181 tb181 zv181 zk181 za181 Tryz.underlying181 ts183 tb183 zv183 zk183 za183 Tryz.underlying183 ts187 tb187 zv187 zk187 za187 Tryz.underlying187 ts200 tb200 zv200 zk200 za200 Tryz.underlying200 ts223 tb223 zv223 zk223 za223 Tryz.underlying223 ts224 tb224 zv224 zk224 za224 Tryz.underlying224 ts230 tb230 zv230 zk230 za230 Tryz.underlying230 ts231 tb231 zv231 zk231 za231 Tryz.underlying231 ts232 tb232 Tryz.underlying232 ts235 tb235 zv235 zk235 za235 Tryz.underlying235 ts236 tb236 zv236 zk236 za236 Tryz.underlying236 ts240 tb240 zv240 zk240 za240 Tryz.underlying240 ts241 tb241 zv241 zk241 za241 Tryz.underlying241 ts243 tb243 zv243 zk243 za243 Tryz.underlying243 ts244 tb244 zv244 zk244 za244 Tryz.underlying244 ts245 tb245 zv245 zk245 za245 Tryz.underlying245 ts246 tb246 zv246 zk246 za246 Tryz.underlying246
attribute [go_sem] Nat.reduceAdd Nat.reduceMul Nat.reduceSub Nat.reduceBEq Nat.reduceLT Nat.reduceLeDiff reduceIte reduceCtorEq Int.reduceToNat Int.reduceLE Int.reduceLT Int.reduceNe Int.reduceMul Int.reduceAdd Int.reduceSub Int.reduceDiv Int.reduceMod Int.reduceEq Int.reduceGE Int.reduceGT Int.reduceNeg Int.reduceBEq Int.reduceBNe Nat.reduceEqDiff
end Go.Proofs.YtkomcdohejibmaaGreatDoor
