/- Results that lie in cells. Own work of this seat. -/
import Derived.Test.YtpjbbpilgfihbaaGreatDoorK3
import Derived.Lib.Builder
import Derived.Lib.AppendStr
import Derived.Lib.UnsafeStr
import Derived.Below
import Derived.ChangeSame
import Derived.HandedShaped
import Derived.LaidMore
import Derived.Lay
import Derived.OpenShut
import Derived.ChangeSlices
import Derived.ProofKit
set_option linter.unusedSimpArgs false
set_option linter.unusedVariables false
namespace Go.Av
open Go Go.RowKit

def sideIs : Res → AV → Prop
  | .side p u, v => p ∧ v = u
  | _, _ => False
def ResOk (P : Program) (e : Env) (s : List Blk) : List ResultVar → List AV → Prop
  | [], [] => True
  | .tmp t :: r, v :: l => v = get e t ∧ ResOk P e s r l
  | .cell a t :: r, v :: l => sideIs (xload (P.underlying t) (tsize P t) s (get e a)) v ∧ ResOk P e s r l
  | _, _ => False
def resT : List AV → AV
  | [v] => v
  | l => .tup l

theorem addr_of_load {P : Program} {w : World} {t : TypeId} {u v : Value} (h : (Instr.loadAt t u).run P w = .ok v w) : (do loadVar t (← asAddr u) : Sem Value).run P w = .ok v w := by
  cases u with
  | pointer a =>
    cases a with
    | some a => exact h
    | none => simp [Instr.loadAt, Instr.sureAddr, stuck] at h
  | _ => simp [Instr.loadAt, Instr.sureAddr, stuck] at h

section
variable {c : Cx} {e : Env} {s : List Blk}

def resF (tmps : Array Value) : ResultVar → Sem Value
  | .tmp t => pure (tmps.getD t undef)
  | .cell a t => do loadVar t (← asAddr (tmps.getD a undef))

theorem results_cells {h : Mem} {ρ : Own} {a : Act} {w : World} (m : Mine h ρ s w) (he : EnvOk h ρ s e a) : ∀ {rs : List ResultVar} {vals : List AV}, ResOk c.P e s rs vals →
    ∃ vs : List Value, (rs.mapM (resF a.tmps)).run c.P w = .ok vs w ∧ RL h (Lf ρ s) false vs vals
  | [], [], _ => ⟨[], by rw [List.mapM_nil, Sem.run_pure], .nil⟩
  | .tmp t :: r, v :: l, hv => by
    obtain ⟨rfl, hr⟩ := hv
    obtain ⟨vs, h1, h2⟩ := results_cells m he hr
    refine ⟨a.tmps.getD t undef :: vs, ?_, .cons (he t) h2⟩
    rw [List.mapM_cons, Sem.run_bind]
    simp only [resF, Sem.run_pure, Result.andThen_ok, Sem.run_bind, h1]
  | .cell b t :: r, v :: l, hv => by
    obtain ⟨h0, hr⟩ := hv
    obtain ⟨vs, h1, h2⟩ := results_cells m he hr
    have hl := load_val (P := c.P) (t := t) m (he b)
    unfold sideIs at h0
    revert h0 hl
    cases xload (c.P.underlying t) (tsize c.P t) s (get e b) <;> intro h0 hl <;> try exact h0.elim
    obtain ⟨hp, rfl⟩ := h0
    obtain ⟨u, hu, ru⟩ := hl hp
    have hu' := addr_of_load hu
    refine ⟨u :: vs, ?_, .cons ru h2⟩
    rw [List.mapM_cons, Sem.run_bind]
    have hf : (resF a.tmps (.cell b t)).run c.P w = .ok u w := hu'
    simp only [hf, Result.andThen_ok, Sem.run_bind, h1, Sem.run_pure]
  | [], _ :: _, hv => hv.elim
  | .tmp _ :: _, [], hv => hv.elim
  | .cell _ _ :: _, [], hv => hv.elim

def tupV : List Value → Value
  | [v] => v
  | l => .tuple l.toArray

theorem results_eq {fn : Func} (rs : List ResultVar) (hr : fn.results = rs.toArray) (tmps : Array Value) {P : Program} {w : World} {vs : List Value} (h : (rs.mapM (resF tmps)).run P w = .ok vs w) :
    (results fn tmps).run P w = .ok (tupV vs) w := by
  have e : results fn tmps = (do let vs ← fn.results.mapM (resF tmps); pure (if h : vs.size = 1 then vs[0] else .tuple vs) : Sem Value) := rfl
  rw [e, hr, Sem.run_bind, List.mapM_toArray]
  erw [Sem.run_bind]
  rw [h]
  clear h
  match vs with
  | [] => rfl
  | [v] => rfl
  | v :: u :: r => simp [Result.andThen, Sem.pure, tupV]

theorem aretc (rs : List ResultVar) (hr : c.fn.results = rs.toArray) (vals : List AV) (hv : ResOk c.P e s rs vals) (hp : c.post (resT vals) s) : ARet c e s := by
  rintro a w ⟨hh, ρ, hm, hl, he, hdf, hsz, _⟩
  obtain ⟨vs, h1, h2⟩ := results_cells (c := c) hm he hv
  refine ⟨hdf, tupV vs, resT vals, s, hh, ρ, ?_, hp, hm, hl, ?_⟩
  · exact results_eq rs hr _ h1
  · cases h2 with
    | nil => exact .tup _ _ .nil
    | cons r1 r2 =>
      cases r2 with
      | nil => exact r1
      | cons r2 r3 => exact .tup _ _ (.cons r1 (.cons r2 r3))
end
end Go.Av
/- A strings.Builder beside the table: its two blocks are nobody's; what it holds is said of the world. Own work of this seat. -/
set_option linter.unusedSimpArgs false
set_option linter.unusedVariables false
namespace Go.Av
open Go Go.RowKit

/-- all stands but block b and, where there is one, block r -/
structure Fr (w w' : World) (b : Nat) (r : Option Nat) : Prop where
  os : w'.os = w.os
  tape : w'.tape = w.tape
  output : w'.output = w.output
  size : w.heap.size ≤ w'.heap.size
  block : ∀ k, k < w.heap.size → k ≠ b → some k ≠ r → w'.heap[k]? = w.heap[k]?

def Lone (h : Mem) (ρ : Own) (b : Nat) : Prop := (∀ i t, ρ i ≠ some (b, t)) ∧ ∀ o, h b o = none
def rowOf (w : World) (b : Nat) : Option Nat := (w.cell? ⟨b, 1, none⟩).bind Value.ownBlock

/-- the builder's block b holds these bytes -/
def BldA (T e : TypeId) (B b : Nat) (l : List UInt8) (h : Mem) (ρ : Own) (w : World) : Prop :=
  Lib.IsBuilder T e B b (Lib.byteCells l) w ∧ Lone h ρ b ∧ ∀ r, rowOf w b = some r → Lone h ρ r

section
variable {h h' : Mem} {ρ ρ' : Own} {sto sto' : List Blk} {w w' : World} {T e : TypeId} {B b : Nat} {l : List UInt8}

theorem Lone.later (m : Mine h ρ sto w) (x : Later h ρ sto w h' ρ' sto' w') {k : Nat} (hk : k < w.heap.size) (a : Lone h ρ k) : Lone h' ρ' k := by
  refine ⟨fun i t hi => ?_, fun o => ?_⟩
  · rcases x.newown i k t hi with ⟨j, t', hj⟩ | hs
    · exact a.1 j t' hj
    · omega
  · cases hq : h' k o with
    | none => rfl
    | some v =>
      rcases x.hnew k o (a.2 o) (by simp [hq]) with ⟨j, t', hj⟩ | hs
      · exact (a.1 j t' hj).elim
      · omega

/-- what a builder is, taken apart -/
theorem bld_parts (hb : Lib.IsBuilder T e B b (Lib.byteCells l) w) : ∃ p v, (p = .pointer none ∨ p = .pointer (some ⟨b, 0, none⟩)) ∧ B ≤ b ∧ w.heap[b]? = some (.cells #[p, v] T (0, 0)) ∧ w.ownsRow B e 1 v (Lib.byteCells l).length (Lib.byteCells l) ∧ v.ownBlock ≠ some b ∧
    rowOf w b = v.ownBlock := by
  rcases hb with ⟨h1, v, h2, h3, h4⟩ | ⟨h1, v, h2, h3, h4⟩
  · exact ⟨_, v, .inl rfl, h1, h2, h3, h4, by simp [rowOf, World.cell?, h2]⟩
  · exact ⟨_, v, .inr rfl, h1, h2, h3, h4, by simp [rowOf, World.cell?, h2]⟩

theorem bld_of {p v : Value} (hp : p = .pointer none ∨ p = .pointer (some ⟨b, 0, none⟩)) (h1 : B ≤ b) (h2 : w.heap[b]? = some (.cells #[p, v] T (0, 0))) (h3 : w.ownsRow B e 1 v (Lib.byteCells l).length (Lib.byteCells l)) (h4 : v.ownBlock ≠ some b) :
    Lib.IsBuilder T e B b (Lib.byteCells l) w := by
  rcases hp with rfl | rfl
  · exact .inl ⟨h1, v, h2, h3, h4⟩
  · exact .inr ⟨h1, v, h2, h3, h4⟩

theorem ownsRow_same {v : Value} {n : Nat} {xs : List Value} (hr : ∀ k, v.ownBlock = some k → w'.heap[k]? = w.heap[k]?) (x : w.ownsRow B e 1 v n xs) : w'.ownsRow B e 1 v n xs := by
  refine ⟨x.1, ?_⟩
  rcases x.2 with h | ⟨g, cap, cur, rfl, h2, h3, h4⟩
  · exact .inl h
  · exact .inr ⟨g, cap, cur, rfl, h2, (hr g rfl).trans h3, h4⟩

theorem bld_stb (T e : TypeId) (B b : Nat) (l : List UInt8) : Stb (BldA T e B b l) where
  later := by
    rintro h ρ sto w h' ρ' sto' w' m x ⟨h1, h2, h3⟩
    obtain ⟨p, v, p1, p2, p3, p4, p5, p6⟩ := bld_parts h1
    have hb : b < w.heap.size := (Array.getElem?_eq_some_iff.1 p3).1
    have hrow : ∀ k, v.ownBlock = some k → k < w.heap.size ∧ Lone h ρ k := fun k hk => ⟨(p4.lt k hk).2, h3 k (by rw [p6]; exact hk)⟩
    have e1 : w'.heap[b]? = w.heap[b]? := x.block b hb h2.1
    have e2 : ∀ k, v.ownBlock = some k → w'.heap[k]? = w.heap[k]? := fun k hk => x.block k (hrow k hk).1 (hrow k hk).2.1
    have p3' := e1.trans p3
    refine ⟨bld_of p1 p2 p3' (ownsRow_same e2 p4) p5, h2.later m x hb, fun r hr => ?_⟩
    have : rowOf w' b = v.ownBlock := by simp [rowOf, World.cell?, p3']
    rw [this] at hr
    exact (hrow r hr).2.later m x (hrow r hr).1
  fewer := by
    rintro h ρ ρ' w hf ⟨h1, h2, h3⟩
    have key : ∀ k, Lone h ρ k → Lone h ρ' k := fun k a => ⟨fun i t hi => by
      obtain ⟨j, t', hj⟩ := hf i k t hi
      exact a.1 j t' hj, a.2⟩
    exact ⟨h1, key b h2, fun r hr => key r (h3 r hr)⟩

theorem WQ_x (c : Cx) (x : Mem → Own → World → Prop) (hx : Stb x) : ∀ k, WQ { c with x := x, hx := hx } k = WQ c k
  | [] => by funext ex a w; cases ex <;> rfl
  | y :: k => by
    have ih := WQ_x c x hx k
    funext ex a w
    cases ex <;> cases y <;> simp only [WQ, ih]

variable {c : Cx} {k : List It} {en : Env} {s : List Blk}

/-- a builder is made -/
theorem bstart {o : Oper} {all os : List Oper} {t : Tmp} {i : TypeInfo} (ho : o.op = .alloc T) (hg : o.guard = none) (hd : o.dst = some t) {N : Nat} (hN : c.fn.ntmps = N) (hdt : t < N) (hi : c.P.info? T = some i)
    (hz : i.zero = some (.agg #[.pointer none, .slice none 0 0])) (e : TypeId)
    (hk : ∀ b, c.w.heap.size ≤ b → AWp { c with x := BldA T e c.w.heap.size b [], hx := bld_stb T e c.w.heap.size b [] } (.ops all os :: k) (put en (some t) (.raw (.pointer (some ⟨b, 0, none⟩)))) s) :
    AWp c (.ops all (o :: os) :: k) en s := by
  rintro a w ⟨h, ρ, hm, hl, he, hdf, hsz, hX⟩
  have hr : (execOp a.eval o).run c.P w = .ok (.value (.pointer (some ⟨w.heap.size, 0, none⟩))) (w.alloc (.cells #[.pointer none, .slice none 0 0] T)) := by
    simp [execOp, ho, Instr.alloc, zeroValue, typeInfo, hi, hz, newVar, newRow, Value.cells]
  have sm := Same.alloc w (.cells #[.pointer none, .slice none 0 0] T)
  have hb : (w.alloc (.cells #[.pointer none, .slice none 0 0] T)).heap[w.heap.size]? = some (.cells #[.pointer none, .slice none 0 0] T (0, 0)) := heap_alloc_new w _
  have hlone : Lone h ρ w.heap.size := ⟨fun i t hi => by have := hm.lt hi; omega, fun o => by
    cases hq : h w.heap.size o with
    | none => rfl
    | some v => have := hm.memlt hq; omega⟩
  have hbld : BldA T e c.w.heap.size w.heap.size [] h ρ (w.alloc (.cells #[.pointer none, .slice none 0 0] T)) := by
    refine ⟨bld_of (.inl rfl) hl.size hb ⟨rfl, .inl ⟨rfl, rfl⟩⟩ (by simp [Value.ownBlock]), hlone, fun r hr => ?_⟩
    have h0 : rowOf (w.alloc (.cells #[.pointer none, .slice none 0 0] T)) w.heap.size = none := by
      simp only [rowOf, World.cell?, hb]; rfl
    rw [h0] at hr
    cases hr
  have := hk w.heap.size hl.size (a.put (some t) (.pointer (some ⟨w.heap.size, 0, none⟩))) (w.alloc (.cells #[.pointer none, .slice none 0 0] T))
    ⟨h, ρ, hm.same sm, hl.trans (Later.same sm), he.put (by rw [hsz, hN]; simpa [dOk] using hdt) (.raw _), by rw [put_defers']; exact hdf, by rw [put_size]; exact hsz, hbld⟩
  rw [WQ_x] at this
  show wpList c.P all.toArray (WQ c k) (o :: os) a w
  unfold wpList
  rw [if_pos (by simp [Region.wanted, hg])]
  refine .inl ?_
  unfold Oper.wp
  rw [hr]
  show wpList c.P all.toArray (WQ c k) os (a.put o.dst _) _
  rw [hd]
  exact this

theorem Mine.fr (m : Mine h ρ sto w) {r : Option Nat} (f : Fr w w' b r) (hb : Lone h ρ b) (hr : ∀ k, r = some k → Lone h ρ k) : Mine h ρ sto w' := by
  have hne : ∀ k, (∃ i t, ρ i = some (k, t)) ∨ (∃ o v, h k o = some v) → k ≠ b ∧ some k ≠ r := by
    intro k hk
    refine ⟨fun e => ?_, fun e => ?_⟩
    · subst e
      rcases hk with ⟨i, t, hi⟩ | ⟨o, v, ho⟩
      · exact hb.1 i t hi
      · rw [hb.2 o] at ho; cases ho
    · have hl := hr k e.symm
      rcases hk with ⟨i, t, hi⟩ | ⟨o, v, ho⟩
      · exact hl.1 i t hi
      · rw [hl.2 o] at ho; cases ho
  refine ⟨fun k o v e => ?_, fun id blk e => ?_, m.out, m.inj, m.disj⟩
  · obtain ⟨h1, h2⟩ := hne k (.inr ⟨o, v, e⟩)
    exact ⟨(World.cell?_of_block (f.block k (m.memlt e) h1 h2)).trans (m.mem k o v e).1, (m.mem k o v e).2⟩
  · exact (m.own id blk e).mono (fun _ _ _ x => x) (fun _ _ x => x) rfl (fun g t hg => f.block g (m.lt hg) (hne g (.inl ⟨id, t, hg⟩)).1 (hne g (.inl ⟨id, t, hg⟩)).2)

/-- WriteString -/
def WriteC (P : Program) (f : FuncId) (T e : TypeId) : Prop := hasBody P f = true ∧ ∀ (B b : Nat) (bs : List Value) (s : ByteArray) (w : World), Lib.IsBuilder T e B b bs w → bs.length + s.size ≤ 140737488355328 → B ≤ w.heap.size →
  Calls P f #[.pointer (some ⟨b, 0, none⟩), .string s] w fun en w' => en = .returned (.tuple #[.int .i64 s.size, .nilIface]) ∧ Lib.BuilderAt T e B b (.pointer (some ⟨b, 0, none⟩)) (bs ++ Lib.strCells s) w' ∧ Fr w w' b (rowOf w b) ∧
    ∀ r, rowOf w' b = some r → rowOf w b = some r ∨ w.heap.size ≤ r

theorem bwrite {f : FuncId} (hw : WriteC c.P f T e) {x : List UInt8} {d : Option Tmp} {all os : List Oper} (hx : c.x = BldA T e B b l) (hB : B = c.w.heap.size) {N : Nat} (hN : c.fn.ntmps = N) (hd : dOk N d = true) (hlen : l.length + x.length ≤ 140737488355328)
    (hk : AWp { c with x := BldA T e B b (l ++ x), hx := bld_stb T e B b (l ++ x) } (.ops all os :: k) (put en d (.tup [.int .i64 x.length, .raw .nilIface])) s) :
    ACall c f [.raw (.pointer (some ⟨b, 0, none⟩)), .str x] d all os k en s := by
  intro a w h ρ vs hm hl he hdf hsz hX hv
  rw [hx] at hX
  obtain ⟨h1, h2, h3⟩ := hX
  refine ⟨hw.1, ?_⟩
  have hvs : vs = [.pointer (some ⟨b, 0, none⟩), .string ⟨x.toArray⟩] := by
    cases hv with | cons r1 r2 => cases r2 with | cons r2 r3 => cases r3; rw [inv_raw r1, inv_str r2]
  subst hvs
  obtain ⟨p, v, p1, p2, p3, p4, p5, p6⟩ := bld_parts h1
  refine (hw.2 B b _ ⟨x.toArray⟩ w h1 (by rw [Lib.byteCells_length]; exact hlen) (by have := hl.size; omega)).mono ?_
  rintro en' w' ⟨rfl, hb, hf, hnew⟩
  have hm' := hm.fr hf h2 h3
  have hrow : ∀ r, rowOf w b = some r → B ≤ r := fun r hr => by rw [p6] at hr; exact (p4.lt r hr).1
  have hl' : Later c.h c.ρ c.sto c.w h ρ s w' := ⟨hl.hle, hl.hnew, hl.keep, hf.os.trans hl.os, hf.tape.trans hl.tape, hf.output.trans hl.output, Nat.le_trans hl.size hf.size, fun k' hk' hno => by
    rw [hf.block k' (Nat.lt_of_lt_of_le hk' hl.size) (by omega) (fun e => by have := hrow k' e.symm; omega)]
    exact hl.block k' hk' hno, hl.newown⟩
  have hcells : Lib.byteCells l ++ Lib.strCells ⟨x.toArray⟩ = Lib.byteCells (l ++ x) := by simp [Lib.byteCells, Lib.strCells]
  rw [hcells] at hb
  have hbd : BldA T e B b (l ++ x) h ρ w' := by
    have hbi : Lib.IsBuilder T e B b (Lib.byteCells (l ++ x)) w' := .inr hb
    obtain ⟨p', v', q1, q2, q3, q4, q5, q6⟩ := bld_parts hbi
    refine ⟨hbi, h2, fun r hr => ?_⟩
    rcases hnew r hr with hold | hrs
    · exact h3 r hold
    · exact ⟨fun i t hi => by have := hm.lt hi; omega, fun o => by
        cases hq : h r o with
        | none => rfl
        | some v => have := hm.memlt hq; omega⟩
  have := hk (a.put d _) w' ⟨h, ρ, hm', hl', he.put (by rw [hsz, hN]; exact hd) (.tup _ _ (.cons (.int _ _) (.cons (.raw _) .nil))), by rw [put_defers']; exact hdf, by rw [put_size]; exact hsz, hbd⟩
  rw [WQ_x] at this
  exact this

/-- String, behind which nothing but its result is spoken of -/
def StringC (P : Program) (f : FuncId) (T e : TypeId) : Prop := hasBody P f = true ∧ ∀ (B b : Nat) (l : List UInt8) (w : World), Lib.IsBuilder T e B b (Lib.byteCells l) w → B ≤ w.heap.size →
  Calls P f #[.pointer (some ⟨b, 0, none⟩)] w fun en w' => en = .returned (.string ⟨l.toArray⟩) ∧ Below B w w'

theorem bstring {f : FuncId} (hw : StringC c.P f T e) {d : Option Tmp} {all os : List Oper} (hx : c.x = BldA T e B b l) (hB : B = c.w.heap.size) (hs0 : c.sto = []) (hm0 : Mine c.h c.ρ c.sto c.w) {N : Nat} (hN : c.fn.ntmps = N) (hd : dOk N d = true)
    (hk : AWp { c with x := X0, hx := stb0 } (.ops all os :: k) (put [] d (.str l)) []) :
    ACall c f [.raw (.pointer (some ⟨b, 0, none⟩))] d all os k en s := by
  intro a w h ρ vs hm hl he hdf hsz hX hv
  rw [hx] at hX
  obtain ⟨h1, h2, h3⟩ := hX
  refine ⟨hw.1, ?_⟩
  have hvs : vs = [.pointer (some ⟨b, 0, none⟩)] := by
    cases hv with | cons r1 r2 => cases r2; rw [inv_raw r1]
  subst hvs
  refine (hw.2 B b l w h1 (by have := hl.size; omega)).mono ?_
  rintro en' w' ⟨rfl, hb⟩
  have hρ0 : ∀ i, c.ρ i = none := fun i => hm0.out i (by rw [hs0]; simp)
  have hcell : ∀ k', k' < c.w.heap.size → w'.heap[k']? = c.w.heap[k']? := fun k' hk' => by
    rw [hb.block k' (by omega)]
    exact hl.block k' hk' (fun i t hi => by rw [hρ0 i] at hi; cases hi)
  have hmine : Mine c.h (fun _ => none) [] w' := by
    refine ⟨fun k' o v e' => ?_, fun id blk e' => by simp at e', fun _ _ => rfl, fun i j g t t' e' => by simp at e', fun i g t e' => by simp at e'⟩
    exact ⟨(World.cell?_of_block (hcell k' (hm0.memlt e'))).trans (hm0.mem k' o v e').1, (hm0.mem k' o v e').2⟩
  have hlat : Later c.h c.ρ c.sto c.w c.h (fun _ => none) [] w' := by
    refine ⟨fun _ _ _ x => x, fun _ _ x y => (y x).elim, fun v x lf => ?_, hb.os.trans hl.os, hb.tape.trans hl.tape, hb.output.trans hl.output, Nat.le_trans hl.size hb.size, fun k' hk' _ => hcell k' hk', fun i g t e' => by simp at e'⟩
    have := lf.2
    rw [hs0] at this
    cases x <;> simp [LfC] at this
  have := hk (a.put d (.string ⟨l.toArray⟩)) w' ⟨c.h, fun _ => none, hmine, hlat, ?_, by rw [put_defers']; exact hdf, by rw [put_size]; exact hsz, trivial⟩
  · rw [WQ_x] at this
    exact this
  · have he0 : EnvOk c.h (fun _ => none) [] [] a := fun t => .any _
    exact he0.put (by rw [hsz, hN]; exact hd) (.str _)
end

/-- .. and its end, where what is said of the world has changed -/
theorem aagain_x {c0 c : Cx} {B : Code} {k : List It} {e : Env} {s : List Blk} (hc : c = { c0 with x := c.x, hx := c.hx }) (h : AHd c B k e s) : AWp c (.inv (Hd c0.P B (WQ c0 k)) :: k) e s := fun a w hs => by
  have h1 := h a w hs
  have e1 : WQ c k = WQ c0 k := by rw [hc]; exact WQ_x c0 c.x c.hx k
  have e2 : c.P = c0.P := by rw [hc]
  rw [e1, e2] at h1
  exact h1
end Go.Av
/- A block of one's own that is frozen, told anew wherever a reference to it stands. Own work of this seat. -/
set_option linter.unusedSimpArgs false
set_option linter.unusedVariables false
namespace Go.Av
open Go Go.RowKit

section
variable {h : Mem} {ρ : Own} {sto : List Blk} {w : World} {P : Program}

theorem Mine.freeze' (m : Mine h ρ sto w) {id e : Nat} {l : List AV} (hb : sto[id]? = some (.arr e l)) (hf : (flat l).all frozen = true) :
    ∃ h' ρ', (∀ i, i ≠ id → ρ' i = ρ i) ∧ Mine h' ρ' (sto.set id .dead) w ∧ Later h ρ sto w h' ρ' (sto.set id .dead) w ∧
      ∀ v off len cap, LfC ρ sto v (.sl id off len cap) → off + cap = l.length → len ≤ cap → RV h' (Lf ρ' (sto.set id .dead)) false v (.fz e ((l.drop off).take len)) := by
  have hid := (List.getElem?_eq_some_iff.1 hb).1
  rcases m.own id _ hb with ⟨rfl, hn⟩ | ⟨g, tot, cur, t, h3, h4, h5, h6, h7, h8, h9, h10, h11⟩
  · have hk : ∀ v a, Lf ρ sto v a → Lf ρ (sto.set id .dead) v a := fun v a l => ⟨l.1, LfC_set hb (fun _ _ => rfl) trivial l.2⟩
    refine ⟨h, ρ, fun _ _ => rfl, ⟨m.mem, ?_, fun i hi => m.out i (by simpa using hi), m.inj, m.disj⟩, ⟨fun _ _ _ x => x, fun _ _ a b => (b a).elim, hk, rfl, rfl, rfl, Nat.le_refl _, fun _ _ _ => rfl, fun i _ t x => .inl ⟨i, t, x⟩⟩, ?_⟩
    · intro i blk e1
      by_cases hi : i = id
      · subst hi
        simp [hid] at e1
        subst e1
        exact hn
      · rw [List.getElem?_set_ne (Ne.symm hi)] at e1
        exact (m.own i blk e1).mono (fun _ _ _ x => x) hk rfl (fun _ _ _ => rfl)
    · intro v off len cap hl hc hlc
      simp only [LfC, hb] at hl
      rcases hl.2 hc with ⟨rfl, rfl, a, rfl⟩ | ⟨g, tot, h1, _⟩
      · cases a with
        | none => simpa [at0] using RV.fznil e
        | some a => simpa [at0] using RV.fz (h := h) (Lf := Lf ρ (sto.set id .dead)) (fl := false) a.1 a.2 0 e [] [] .nil (by simp) (by simp) (Nat.le_refl _)
      · simp [hn] at h1
  · let h' : Mem := fun b o => if b = g then cur.toList[o]? else h b o
    have hle : ∀ b o v, h b o = some v → h' b o = some v := by
      intro b o v e1
      have : b ≠ g := fun hq => by subst hq; simp [m.disj id b tot h3 o] at e1
      simp [h', this, e1]
    have hk : ∀ v a, Lf ρ sto v a → Lf (upd ρ id none) (sto.set id .dead) v a := fun v a l => ⟨l.1, LfC_set hb (fun i hi => by simp [upd, hi]) trivial l.2⟩
    have hown : ∀ i b t, upd ρ id none i = some (b, t) → i ≠ id ∧ ρ i = some (b, t) := by
      intro i b t e1
      unfold upd at e1
      split at e1
      · simp at e1
      · rename_i hi; exact ⟨hi, e1⟩
    refine ⟨h', upd ρ id none, fun i hi => by simp [upd, hi], ⟨?_, ?_, ?_, ?_, ?_⟩, ⟨hle, ?_, hk, rfl, rfl, rfl, Nat.le_refl _, fun _ _ _ => rfl, fun i b t x => .inl ⟨i, t, (hown i b t x).2⟩⟩, ?_⟩
    · intro b o v e1
      by_cases hq : b = g
      · subst hq
        simp only [h', if_true] at e1
        refine ⟨?_, h10 v (List.mem_of_getElem? e1)⟩
        rw [h4.cell]
        simpa using e1
      · simp only [h', hq, if_false] at e1
        exact m.mem b o v e1
    · intro i blk e1
      by_cases hi : i = id
      · subst hi
        simp [hid] at e1
        subst e1
        simp [OwnB, upd]
      · rw [List.getElem?_set_ne (Ne.symm hi)] at e1
        exact (m.own i blk e1).mono hle hk (by simp [upd, hi]) (fun _ _ _ => rfl)
    · intro i hi
      simp at hi
      simp [upd, m.out i hi]
    · intro i j b t t' hi hj
      exact m.inj i j b t t' (hown i b t hi).2 (hown j b t' hj).2
    · intro i b t hi o
      obtain ⟨h1, h2⟩ := hown i b t hi
      have : b ≠ g := fun hq => by subst hq; exact h1 (m.inj i id _ _ _ h2 h3)
      simp [h', this, m.disj i b t h2 o]
    · intro b o e1 e2
      by_cases hq : b = g
      · subst hq; exact .inl ⟨id, tot, h3⟩
      · simp [h', hq, e1] at e2
    · intro v off len cap hl hc hlc
      simp only [LfC, hb] at hl
      have hfl := flat_length h9
      have hcurl : cur.toList.length = tot * e := by simp [h5]
      rcases hl.2 hc with ⟨rfl, rfl, a, rfl⟩ | ⟨g', tot', h1, rfl, _⟩
      · cases a with
        | none => simpa [at0] using RV.fznil e
        | some a => simpa [at0] using RV.fz (h := h') (Lf := Lf (upd ρ id none) (sto.set id .dead)) (fl := false) a.1 a.2 0 e [] [] .nil (by simp) (by simp) (Nat.le_refl _)
      · rw [h3] at h1
        simp only [Option.some.injEq, Prod.mk.injEq] at h1
        obtain ⟨rfl, rfl⟩ := h1
        have hlen : ((l.drop off).take len).length = len := by simp; omega
        have hr : RL h' (Lf (upd ρ id none) (sto.set id .dead)) true (((cur.toList.take (l.length * e)).drop (off * e)).take (len * e)) (flat ((l.drop off).take len)) := by
          rw [← flat_take (l := l.drop off) (esz := e) (fun x hx => h9 x (List.mem_of_mem_drop hx)) len, ← flat_drop h9 off]
          exact (((frz_all h11 hf).thaw (fun _ _ _ x => x)).mono hle (fun _ _ x => x) |>.drop _).take _
        have := RV.fz (h := h') (Lf := Lf (upd ρ id none) (sto.set id .dead)) (fl := false) g (off * e) (tot - off) e ((l.drop off).take len) _ hr (fun x hx => h9 x (List.mem_of_mem_drop (List.mem_of_mem_take hx))) (fun k v hk => by
          rw [List.getElem?_take] at hk
          split at hk
          · rw [List.getElem?_drop, List.getElem?_take] at hk
            split at hk
            · simp only [h', if_true]; exact hk
            · simp at hk
          · simp at hk) (by rw [hlen]; omega)
        rwa [hlen] at this


/-- a reference to the block, told as what it leads to -/
def frz1 (id e : Nat) (l : List AV) : AV → AV
  | .sl i off len cap => bif i == id && (decide (off + cap = l.length) && decide (len ≤ cap)) then .fz e ((l.drop off).take len) else .sl i off len cap
  | a => a
def frz (id e : Nat) (l : List AV) : AV → AV
  | .agg r => .agg (r.map (frz1 id e l))
  | a => frz1 id e l a
def frzB (id e : Nat) (l : List AV) : Blk → Blk
  | .arr es r => .arr es (r.map (frz id e l))
  | b => b

theorem frz_cells (id e : Nat) (l : List AV) (x : AV) : cellsOf (frz id e l x) = (cellsOf x).map (frz1 id e l) := by
  cases x with
  | sl i off len cap =>
    simp only [frz, frz1, cellsOf, List.map_cons, List.map_nil]
    cases (i == id && (decide (off + cap = l.length) && decide (len ≤ cap))) <;> rfl
  | _ => rfl
theorem frz_flat (id e : Nat) (l : List AV) : ∀ r, flat (r.map (frz id e l)) = (flat r).map (frz1 id e l)
  | [] => rfl
  | x :: r => by simp only [List.map_cons, flat, frz_cells, frz_flat id e l r, List.map_append]

theorem LfC_frz {ρ : Own} {sto : List Blk} {v : Value} {a : AV} (id e : Nat) (l : List AV) (x : LfC ρ sto v a) : LfC ρ (sto.map (frzB id e l)) v a := by
  cases a with
  | sl i off len cap =>
    simp only [LfC, List.getElem?_map] at x ⊢
    cases hq : sto[i]? with
    | none => rw [hq] at x; exact x.elim
    | some b => rw [hq] at x; cases b <;> simp only [Option.map_some, frzB, List.length_map] at x ⊢ <;> exact x
  | ptr i n k off =>
    simp only [LfC, List.getElem?_map] at x ⊢
    cases hq : sto[i]? with
    | none => rw [hq] at x; exact x.elim
    | some b => rw [hq] at x; cases b <;> simp only [Option.map_some, frzB, List.length_map] at x ⊢ <;> exact x
  | mp i =>
    simp only [LfC, List.getElem?_map] at x ⊢
    cases hq : sto[i]? with
    | none => rw [hq] at x; exact x.elim
    | some b => rw [hq] at x; cases b <;> simp only [Option.map_some, frzB] at x ⊢ <;> exact x
  | _ => exact x
theorem Lf_frz {ρ : Own} {sto : List Blk} (id e : Nat) (l : List AV) (v : Value) (a : AV) (x : Lf ρ sto v a) : Lf ρ (sto.map (frzB id e l)) v a := ⟨x.1, LfC_frz id e l x.2⟩

theorem Mine.frz (m : Mine h ρ sto w) {id e : Nat} {l : List AV} (hb : sto[id]? = some (.arr e l)) (hf : (flat l).all frozen = true) :
    ∃ h' ρ', Mine h' ρ' ((sto.set id .dead).map (frzB id e l)) w ∧ Later h ρ sto w h' ρ' ((sto.set id .dead).map (frzB id e l)) w ∧
      ∀ v a, RV h (Lf ρ sto) false v a → RV h' (Lf ρ' ((sto.set id .dead).map (frzB id e l))) false v (frz id e l a) := by
  obtain ⟨h', ρ', hr, m', lt, key⟩ := m.freeze' hb hf
  have hkeep : ∀ v a, Lf ρ sto v a → Lf ρ' ((sto.set id .dead).map (frzB id e l)) v a := fun v a x => Lf_frz id e l v a (lt.keep v a x)
  have k1 : ∀ v a, RV h (Lf ρ sto) false v a → RV h' (Lf ρ' ((sto.set id .dead).map (frzB id e l))) false v (frz1 id e l a) := by
    intro v a x
    cases a with
    | sl i off len cap =>
      simp only [frz1]
      cases hq : (i == id && (decide (off + cap = l.length) && decide (len ≤ cap))) with
      | false => exact x.mono lt.hle hkeep
      | true =>
        simp only [Bool.and_eq_true, beq_iff_eq, decide_eq_true_eq] at hq
        obtain ⟨rfl, h1, h2⟩ := hq
        exact (key v off len cap (inv_sl x).2 h1 h2).mono (fun _ _ _ y => y) (fun v a y => Lf_frz i e l v a y)
    | _ => exact x.mono lt.hle hkeep
  have kl : ∀ (r : List AV) (vs : List Value), RL h (Lf ρ sto) false vs r → RL h' (Lf ρ' ((sto.set id .dead).map (frzB id e l))) false vs (r.map (frz1 id e l)) := by
    intro r
    induction r with
    | nil => intro vs x; cases x; exact .nil
    | cons a r ih => intro vs x; cases x with | cons x1 x2 => exact .cons (k1 _ _ x1) (ih _ x2)
  have k2 : ∀ v a, RV h (Lf ρ sto) false v a → RV h' (Lf ρ' ((sto.set id .dead).map (frzB id e l))) false v (Go.Av.frz id e l a) := by
    intro v a x
    cases a with
    | agg r =>
      cases x with
      | leaf p => exact p.2.elim
      | agg vs _ x => exact .agg vs _ (kl _ _ x)
    | _ => exact k1 _ _ x
  refine ⟨h', ρ', ⟨m'.mem, ?_, fun i hi => m'.out i (by simpa using hi), m'.inj, m'.disj⟩, ⟨lt.hle, lt.hnew, hkeep, lt.os, lt.tape, lt.output, lt.size, lt.block, lt.newown⟩, k2⟩
  intro i blk e1
  by_cases hi : i = id
  · subst hi
    have hid := (List.getElem?_eq_some_iff.1 hb).1
    have e2 := m'.own i .dead (by simp [hid])
    simp [List.getElem?_map, hid, frzB] at e1
    subst e1
    exact e2
  · rw [List.getElem?_map, List.getElem?_set_ne (Ne.symm hi)] at e1
    obtain ⟨b, hb', rfl⟩ := Option.map_eq_some_iff.1 e1
    have o := m.own i b hb'
    cases b with
    | arr es r =>
      rcases o with ⟨h1, h2⟩ | ⟨g, tot, cur, t, h1, h2, h3, h4, h5, h6, h7, h8, h9⟩
      · exact .inl ⟨by simp [h1], (hr i hi).trans h2⟩
      · refine .inr ⟨g, tot, cur, t, (hr i hi).trans h1, h2, h3, by simpa using h4, h5, h6, ?_, h8, ?_⟩
        · intro x hx
          obtain ⟨y, hy, rfl⟩ := List.mem_map.1 hx
          rw [frz_cells, List.length_map]
          exact h7 y hy
        · rw [frz_flat, List.length_map]
          exact kl _ _ h9
    | mp es =>
      obtain ⟨g, en, cl, h1, h2, h3, h4⟩ := o
      refine ⟨g, en, cl, (hr i hi).trans h1, h2, h3, fun k x y hx hy => ?_⟩
      obtain ⟨p, q⟩ := h4 k x y hx hy
      exact ⟨p.mono lt.hle hkeep, q.mono lt.hle hkeep⟩
    | dead => exact (hr i hi).trans o

variable {c : Cx} {en : Env} {s : List Blk}
def frzE (id e : Nat) (l : List AV) : Env → Env
  | [] => []
  | (t, v) :: r => (t, frz id e l v) :: frzE id e l r
theorem get_frzE (id e : Nat) (l : List AV) (t : Nat) : ∀ r, get (frzE id e l r) t = frz id e l (get r t)
  | [] => rfl
  | (t', v) :: r => by
    have ih := get_frzE id e l t r
    simp only [frzE, Go.Av.get]
    cases t' == t with
    | true => rfl
    | false => exact ih

/-- a block is frozen; wherever a reference to it stands, it is told as what it leads to -/
theorem Shift.frz (id : Nat) {es : Nat} {l : List AV} (hb : s.getD id .dead = .arr es l) (hf : (flat l).all frozen = true) :
    Shift c en s (frzE id es l en) ((s.set id .dead).map (frzB id es l)) := by
  rintro a w ⟨hh, ρ, hm, hlt, he, hdf, hsz, hX⟩
  obtain ⟨h', ρ', m', l', key⟩ := hm.frz (sto_get hb) hf
  refine ⟨h', ρ', m', hlt.trans l', fun t => ?_, hdf, hsz, c.hx.later hm l' hX⟩
  rw [get_frzE]
  exact key _ _ (he t)
end
end Go.Av
/- Loops with several ways out, joins: the rest of the text is walked once. Own work of this seat. -/
set_option linter.unusedSimpArgs false
set_option linter.unusedVariables false
namespace Go.Av
open Go Go.RowKit

section
variable {c : Cx} {k : List It} {e : Env} {s : List Blk} {B : Code}

/-- behind a stop 'Q' that says what the rest asks, as behind the rest -/
theorem WQ_mid {e : Exit} {a : Act} {w : World} (h : WQ c (.inv (WQ c k .normal) :: k) e a w) : WQ c k e a w := by
  cases e with
  | normal => exact h
  | exit id => exact h
  | ret => exact h
  | _ => exact h
theorem WQ_mid2 {J : Act → World → Prop} {id : Nat} {e : Exit} {a : Act} {w : World} (h : WQ c (.inv J :: .blk id :: .inv (WQ c k .normal) :: k) e a w) : WQ c (.inv J :: .blk id :: k) e a w := by
  cases e with
  | normal => exact h
  | exit id' =>
    simp only [WQ] at h ⊢
    split at h
    · rename_i hi; rw [if_pos hi]; exact h
    · rename_i hi; rw [if_neg hi]; exact h
  | ret => exact h
  | _ => exact h

/-- A JOIN: what holds behind a piece of code, for some y, however it has been gone through; the rest is walked once. -/
theorem amid {κ : Type} {y : Code} (E : κ → Env) (S : κ → List Blk) (H : κ → Prop) (rest : ∀ x, H x → AWp c k (E x) (S x))
    (step : ∀ Q : Act → World → Prop, (∀ x, H x → ∀ a w, Sim c (E x) (S x) a w → Q a w) → AWp c (.code y :: .inv Q :: k) e s) : AWp c (.code y :: k) e s := by
  intro a w hs
  have := step (WQ c k .normal) (fun x hx a w hs => rest x hx a w hs) a w hs
  exact Code.wp_mono (fun en a' w' hq => WQ_mid hq) (show y.wp c.P (WQ c (.inv (WQ c k .normal) :: k)) a w from this)

/-- A LOOP with several ways out: what holds of each way out, for some y; the rest is walked once. -/
theorem aloopX {ι κ : Type} {id : Nat} (μ : ι → Nat) (E : ι → Env) (S : ι → List Blk) (H : ι → Prop) (Ex : κ → Env) (Sx : κ → List Blk) (Hx : κ → Prop) (x0 : ι) (hH : H x0) (hs : Shift c e s (E x0) (S x0))
    (rest : ∀ y, Hx y → AWp c k (Ex y) (Sx y))
    (step : ∀ x, H x → ∀ J Q : Act → World → Prop, (∀ y, H y → μ y < μ x → ∀ a w, Sim c (E y) (S y) a w → J a w) → (∀ y, Hx y → ∀ a w, Sim c (Ex y) (Sx y) a w → Q a w) → AWp c (.code B :: .inv J :: .blk id :: .inv Q :: k) (E x) (S x)) :
    AWp c (.code (.loop B) :: .blk id :: k) e s :=
  aloop μ E S H x0 hH hs fun x hx J hJ a w hsx =>
    Code.wp_mono (fun en a' w' hq => WQ_mid2 hq) (show B.wp c.P (WQ c (.inv J :: .blk id :: .inv (WQ c k .normal) :: k)) a w from step x hx J (WQ c k .normal) hJ (fun y hy a w hs => rest y hy a w hs) a w hsx)
end
end Go.Av
/- Statements whose order is open and in which calls change a block of one's own. Own work of this seat. -/
set_option linter.unusedSimpArgs false
set_option linter.unusedVariables false
namespace Go.Av
open Go Go.RowKit

/-- may the text's order stand for every order, where 'okp j i' says that i may pass the earlier j? -/
def drawOkG (okp : Nat → Nat → Bool) (ops : List Oper) : Bool :=
  (List.range ops.length).all fun i => (waits ops i).all (fun j => decide (j < i)) && (List.range i).all fun j => okp j i || (anc ops ops.length i).contains j

/-- a reference to a block that stands, and to another one than 'id' -/
def refOk (n id : Nat) : AV → Bool
  | .sl i _ _ _ => decide (i < n) && !(i == id)
  | .ptr i _ _ _ => decide (i < n) && !(i == id)
  | .mp i => decide (i < n) && !(i == id)
  | _ => true
def opOk (n id : Nat) (e : Env) (op : Op) : Bool := op.operands.toList.all fun x => refOk n id (ev e x)
/-- operations that read at most -/
def reader : Op → Bool
  | .call c => match c.callee with
    | .builtin .len | .builtin .max | .builtin .min => true
    | _ => false
  | .buildSlice .. | .makeFunc .. | .convert .. => false
  | .slice _ _ _ _ (some _) => false
  | op => calm op
def isAlloc : Op → Bool
  | .alloc _ => true
  | _ => false

/-- calls of functions -/
def isVal : Op → Bool
  | .call c => match c.callee with
    | .value _ => true
    | _ => false
  | _ => false
theorem xop_val {P : Program} {e : Env} {s s' : List Blk} {op : Op} (h : isVal op = true) : xop false true P e s op = xop false true P e s' op := by
  cases op with
  | call c =>
    cases hc : c.callee with
    | value f => simp only [xop, hc]
    | _ => simp [isVal, hc] at h
  | _ => simp [isVal] at h

/-- tables that are alike but for one block -/
def Agr (n id : Nat) (s s' : List Blk) : Prop := ∀ i, i < n → i ≠ id → s.getD i .dead = s'.getD i .dead
theorem Agr.set {s : List Blk} {id : Nat} (b : Blk) : Agr s.length id s (s.set id b) := fun i hi hne => by
  simp only [List.getD, List.getElem?_set_ne (Ne.symm hne)]
theorem Agr.symm {n id : Nat} {s s' : List Blk} (a : Agr n id s s') : Agr n id s' s := fun i h1 h2 => (a i h1 h2).symm
theorem Agr.push {s : List Blk} {id : Nat} (b : Blk) : Agr s.length id s (s ++ [b]) := fun i hi hne => by
  simp only [List.getD, List.getElem?_append_left hi]

theorem refOk_sl {n id i off len cap : Nat} (h : refOk n id (.sl i off len cap) = true) : i < n ∧ i ≠ id := by simpa [refOk] using h
theorem refOk_ptr {n id i m j off : Nat} (h : refOk n id (.ptr i m j off) = true) : i < n ∧ i ≠ id := by simpa [refOk] using h
theorem refOk_mp {n id i : Nat} (h : refOk n id (.mp i) = true) : i < n ∧ i ≠ id := by simpa [refOk] using h

section
variable {n id : Nat} {s s' : List Blk} (ha : Agr n id s s')
include ha
theorem xload_agr {d : Option TypeDesc} {sz : Nat} {y : AV} (h : refOk n id y = true) : xload d sz s y = xload d sz s' y := by
  cases y <;> try rfl
  obtain ⟨h1, h2⟩ := refOk_ptr h
  simp only [xload, ha _ h1 h2]
theorem xptr_agr {p : Prop} {m : Nat} {y : AV} (h : refOk n id y = true) : xptrAddIf p s y m = xptrAddIf p s' y m := by
  cases y <;> try rfl
  obtain ⟨h1, h2⟩ := refOk_ptr h
  simp only [xptrAddIf, ha _ h1 h2]
theorem xindexAddr_agr {d : Option TypeDesc} {sz : Nat} {x i : AV} (h : refOk n id x = true) : xindexAddr d sz s x i = xindexAddr d sz s' x i := by
  unfold xindexAddr
  split
  · exact xptr_agr ha h
  · cases x <;> try rfl
    obtain ⟨h1, h2⟩ := refOk_sl h
    simp only [ha _ h1 h2]
  · rfl
theorem xlen_agr {d : Option TypeDesc} {x : AV} (h : refOk n id x = true) : xlen s x d = xlen s' x d := by
  unfold xlen
  split <;> first | rfl | skip
  obtain ⟨h1, h2⟩ := refOk_sl h
  rw [ha _ h1 h2]
theorem xnil_agr {x : AV} (h : refOk n id x = true) : xnil s x = xnil s' x := by
  cases x <;> try rfl
  obtain ⟨h1, h2⟩ := refOk_ptr h
  simp only [xnil, ha _ h1 h2]
theorem xlook_agr {P : Program} {x k : AV} {b : Bool} {d : Option TypeDesc} (h : refOk n id x = true) : xlook P s x k b d = xlook P s' x k b d := by
  unfold xlook
  split
  · split
    · obtain ⟨h1, h2⟩ := refOk_mp h
      rw [ha _ h1 h2]
    · rfl
  · rfl
theorem xcut_agr {P : Program} {x : AV} {lo hi : Option AV} {d : Option TypeDesc} (h : refOk n id x = true) : xcut P s x lo hi none d = xcut P s' x lo hi none d := by
  unfold xcut
  split
  · rfl
  · split <;> first | rfl | skip
    obtain ⟨h1, h2⟩ := refOk_sl h
    rw [ha _ h1 h2]
  · rename_i h0; cases h0
  · rfl
theorem xnileq_agr {b : Bool} {x : AV} (h : refOk n id x = true) : xnileq s b x = xnileq s' b x := by
  unfold xnileq
  split <;> first | rfl | skip
  obtain ⟨h1, h2⟩ := refOk_sl h
  rw [ha _ h1 h2]
theorem xbin3_agr {P : Program} {t : TypeId} {wr : Bool} {op : BinOp} {x y : AV} (h : refOk n id x = true) : xbin3 P t wr s op x y = xbin3 P t wr s' op x y := by
  have h2 : ∀ d, xbin2 wr s d op x y = xbin2 wr s' d op x y := fun d => by
    unfold xbin2
    split
    · split
      · exact xnileq_agr ha h
      · exact xnileq_agr ha h
      · rfl
    · rfl
  unfold xbin3
  split
  · rfl
  · exact h2 _

theorem xop_reader {P : Program} {e : Env} {op : Op} (hr : reader op = true) (ho : opOk n id e op = true) : xop false true P e s op = xop false true P e s' op := by
  have hx : ∀ x ∈ op.operands.toList, refOk n id (ev e x) = true := List.all_eq_true.1 ho
  cases op <;> first | rfl | (exfalso; revert hr; simp [reader, calm]; done) | skip
  case binOp op t x y yt => exact xbin3_agr ha (hx x (by simp [Op.operands]))
  case load t x => exact xload_agr ha (hx x (by simp [Op.operands]))
  case fieldAddr t x f =>
    simp only [xop]
    unfold xfieldAddr
    split
    · exact xptr_agr ha (hx x (by simp [Op.operands]))
    · rfl
  case indexAddr t x i => exact xindexAddr_agr ha (hx x (by simp [Op.operands]))
  case nilCheck x => exact xnil_agr ha (hx x (by simp [Op.operands]))
  case lookup t m k b => exact xlook_agr ha (hx m (by simp [Op.operands]))
  case slice t x lo hi mx =>
    cases mx with
    | some y => simp [reader] at hr
    | none => exact xcut_agr ha (hx x (by simp [Op.operands]))
  case unOp op t x => cases op <;> rfl
  case call cl =>
    simp only [xop]
    split <;> try rfl
    · rename_i hc
      unfold xlen2
      split
      · rename_i x r t r' h1 h2
        exact xlen_agr ha (hx x (by simp [Op.operands, Call.operands, h1]))
      · rfl
    all_goals (rename_i hc; simp [reader, hc] at hr)
end

/-- what a call comes to that changes the block 'id' alone -/
def McC (c : Cx) (f : FuncId) (args : List AV) (id : Nat) (blk : Blk) (post : AV → Blk → Prop) : Prop :=
  hasBody c.P f = true ∧ ∀ h ρ s w vs, s[id]? = some blk → Mine h ρ s w → Later c.h c.ρ c.sto c.w h ρ s w → RL h (Lf ρ s) false vs args → Calls c.P f vs.toArray w fun en w' =>
    ∃ v r b h' ρ', en = .returned v ∧ post r b ∧ Mine h' ρ' (s.set id b) w' ∧ Later h ρ s w h' ρ' (s.set id b) w' ∧ RV h' (Lf ρ' (s.set id b)) false v r
def ICall (c : Cx) (f : FuncId) (args : List AV) (id : Nat) (s : List Blk) (K : AV → List Blk → Prop) : Prop :=
  ∃ blk post, s[id]? = some blk ∧ McC c f args id blk post ∧ (∃ r b, post r b) ∧ ∀ r b, post r b → K r (s.set id b)
def Imp (c : Cx) (id : Nat) (o : Oper) (e : Env) (s : List Blk) (K : AV → List Blk → Prop) : Prop :=
  o.guard = none ∧ ∃ f args, xop false true c.P e s o.op = .call f args ∧ ICall c f args id s K

def ChI (c : Cx) (ops : Array Oper) (im : List Nat) (id : Nat) (K : Env → List Blk → Prop) : List Nat → Env → List Blk → Prop
  | [], e, s => K e s
  | i :: r, e, s => match ops[i]? with
    | none => False
    | some o => bif im.contains i then Imp c id o e s (fun v s' => ChI c ops im id K r (put e o.dst v) s')
      else (reader o.op = true → blind o.op = false → opOk s.length id e o.op = true) ∧ ∃ cv v s', Does c ops s o cv e v s' ∧ ChI c ops im id K r (put e o.dst v) s'

/-- may i pass the earlier j? -/
def okI (ops : List Oper) (im : List Nat) (j i : Nat) : Bool := match ops[j]?, ops[i]? with
  | some oj, some oi => oj.apart ops.toArray oi && (bif im.contains i then !im.contains j && reader oj.op else bif im.contains j then reader oi.op || (isAlloc oi.op && isVal oj.op) else together oj oi || ((reader oj.op || isVal oj.op) && isAlloc oi.op))
  | _, _ => false

section
variable {cx : Cx} {ops : Array Oper} {s : List Blk} {K : Env → List Blk → Prop} {im : List Nat} {id : Nat}

theorem reader_calm {op : Op} (hr : reader op = true) : calm op = true := by
  cases op <;> first | rfl | (exfalso; revert hr; simp [reader, calm]; done) | skip
  case slice t x lo hi mx =>
    cases mx with
    | none => rfl
    | some y => simp [reader] at hr
  case call cl =>
    cases hc : cl.callee with
    | builtin b => cases b <;> simp [reader, hc] at hr <;> simp [calm, hc]
    | _ => simp [reader, hc] at hr
theorem doesOp_reader {n : Nat} {s s' s1 : List Blk} {o : Oper} {cv v : AV} {e : Env} (hr : reader o.op = true) (ho : opOk n id e o.op = true) (ha : Agr n id s s') (h : DoesOp cx s o cv e v s1) : s1 = s ∧ DoesOp cx s' o cv e v s' := by
  have hx := xop_reader (P := cx.P) ha hr ho
  have hc : calm o.op = true := reader_calm hr
  have hs := h.calm hc
  refine ⟨hs, ?_⟩
  subst hs
  unfold DoesOp at h ⊢
  rw [← hx]
  split at h <;> rename_i hq
  · exact ⟨h.1, rfl⟩
  · exact ⟨h.1, h.2.1, rfl⟩
  · rw [hc] at h; cases h.1
  · exact ⟨h.1, rfl⟩
  · exact ⟨h.1, h.2.1, h.2.2.1, rfl⟩
  · exact h.elim
theorem does_reader {n : Nat} {s s' s1 : List Blk} {o : Oper} {cv v : AV} {e : Env} (hr : reader o.op = true) (ho : blind o.op = false → opOk n id e o.op = true) (ha : Agr n id s s') (h : Does cx ops s o cv e v s1) : s1 = s ∧ Does cx ops s' o cv e v s' := by
  cases hb : blind o.op with
  | true =>
    have := h.calm (blind_calm hb)
    exact ⟨this, h.blind hb⟩
  | false =>
  replace ho := ho hb
  unfold Does at h ⊢
  split at h
  · exact doesOp_reader hr ho ha h
  · split at h
    · rcases h with ⟨h1, h⟩ | ⟨h1, h2, h⟩
      · obtain ⟨x, y⟩ := doesOp_reader hr ho ha h
        exact ⟨x, .inl ⟨h1, y⟩⟩
      · exact ⟨h, .inr ⟨h1, h2, rfl⟩⟩
    · exact h.elim
def Res.isCall : Res → Bool
  | .call .. => true
  | _ => false
theorem xint_nc {op : BinOp} {k : IntKind} {a b : Int} : (xint false op k a b).isCall = false := by cases op <;> rfl
theorem xbin_nc {d : Option TypeDesc} {op : BinOp} {x y : AV} : (xbin false d op x y).isCall = false := by
  unfold xbin
  split
  · split
    · exact xint_nc
    · rfl
  · cases op <;> rfl
  · unfold xbool; split <;> rfl
  · rfl
theorem xbin3_nc {P : Program} {t : TypeId} {op : BinOp} {x y : AV} : (xbin3 P t false s op x y).isCall = false := by
  unfold xbin3
  split
  · split
    · unfold xeqs
      split
      · unfold xeqop
        split
        · split <;> rfl
        · rfl
      · rfl
    · rfl
  · unfold xbin2
    split
    · split
      · unfold xnileq; split <;> first | rfl | (split <;> rfl)
      · unfold xnileq; split <;> first | rfl | (split <;> rfl)
      · rfl
    · exact xbin_nc
theorem xptr_nc {p : Prop} {x : AV} {n : Nat} : (xptrAddIf p s x n).isCall = false := by
  unfold xptrAddIf
  split <;> first | rfl | (split <;> rfl)
theorem xop_nocall {P : Program} {e : Env} {op : Op} (hr : reader op = true) : (xop false true P e s op).isCall = false := by
  cases op <;> first | rfl | (exfalso; revert hr; simp [reader, calm]; done) | skip
  case binOp op t x y yt => exact xbin3_nc
  case unOp op t x =>
    cases op <;> first | rfl | skip
    · simp only [xop]; unfold xneg; split <;> rfl
    · simp only [xop]; unfold xnot; split <;> rfl
  case pick cc x y => simp only [xop]; unfold xpick; split <;> rfl
  case extract x i => simp only [xop]; unfold xextract; split <;> rfl
  case index t x i => simp only [xop]; unfold xindex; split <;> rfl
  case field t x f =>
    simp only [xop]; unfold xfieldF
    split
    · split <;> rfl
    · rfl
  case fieldAddr t x f =>
    simp only [xop]; unfold xfieldAddr
    split
    · exact xptr_nc
    · rfl
  case indexAddr t x i =>
    simp only [xop]; unfold xindexAddr
    split
    · exact xptr_nc
    · split <;> first | rfl | (split <;> rfl)
    · rfl
  case load t x =>
    simp only [xop]; unfold xload
    split <;> first | rfl | (split <;> rfl)
  case build t parts =>
    simp only [xop]; unfold xbuild
    split <;> first | rfl | (split <;> rfl)
  case nilCheck x =>
    simp only [xop]; unfold xnil
    split <;> first | rfl | (split <;> rfl)
  case lookup t m k b =>
    simp only [xop]; unfold xlook
    split
    · split
      · unfold xlookB
        split
        · cases isKey _ _ with
          | false => rfl
          | true => simp only [cond_true]; unfold xlookF; split <;> rfl
        · rfl
      · rfl
    · rfl
  case slice t x lo hi mx =>
    cases mx with
    | some y => simp [reader] at hr
    | none =>
      simp only [xop, evo]; unfold xcut
      split
      · split
        · unfold xcutS; split <;> rfl
        · rfl
      · split
        · unfold xcutF; split <;> rfl
        · unfold xcutB; split <;> rfl
        · unfold xcutN; split <;> rfl
        · rfl
      · rename_i a b; first | (cases a; done) | (cases b; done)
      · rfl
  case call cl =>
    simp only [xop]
    split
    · unfold xlen2
      split
      · unfold xlen; split <;> first | rfl | (split <;> rfl)
      · rfl
    · rename_i hc; simp [reader, hc] at hr
    · rename_i hc; simp [reader, hc] at hr
    · rename_i hc; simp [reader, hc] at hr
    · unfold xmax; split
      · rename_i k a k' b _; cases decide (k = k') <;> rfl
      · rfl
    · unfold xmax; split
      · rename_i k a k' b _; cases decide (k = k') <;> rfl
      · rfl
    · rename_i hc; simp [reader, hc] at hr
    · rfl
theorem does_det {s s1 s2 : List Blk} {o : Oper} {cv cv2 v v2 : AV} {e : Env} (hr : reader o.op = true) (h : Does cx ops s o cv e v s1) (h2 : Does cx ops s o cv2 e v2 s2) : v = v2 := by
  have key : ∀ {s1 s2}, DoesOp cx s o cv e v s1 → DoesOp cx s o cv2 e v2 s2 → v = v2 := by
    intro s1 s2 h h2
    unfold DoesOp at h h2
    have hn := xop_nocall (P := cx.P) (e := e) (s := s) hr
    revert h h2 hn
    cases xop false true cx.P e s o.op with
    | ok u => intro h h2 _; rw [h.1, h2.1]
    | side p u => intro h h2 _; rw [h.2.1, h2.2.1]
    | sto p u s' => intro h h2 _; rw [h.2.2.1, h2.2.2.1]
    | pick b x y => intro h h2 _; rw [h.1, h2.1]
    | call f args => intro _ _ hn; cases hn
    | anyb p => intro h _ _; exact h.elim
    | stuck => intro h _ _; exact h.elim
  unfold Does at h h2
  split at h
  · rename_i hg; rw [hg] at h2; exact key h h2
  · rename_i j want hg
    rw [hg] at h2
    simp only at h2
    split at h
    · rename_i b hb
      rw [hb] at h2
      simp only at h2
      rcases h with ⟨h1, h⟩ | ⟨h1, h, _⟩ <;> rcases h2 with ⟨h3, h4⟩ | ⟨h3, h4, _⟩
      · exact key h h4
      · exact (h3 h1).elim
      · exact (h1 h3).elim
      · rw [h, h4]
    · exact h.elim

theorem opOk_agree {n : Nat} {e e' : Env} {op : Op} (h : ∀ x ∈ op.operands, ev e x = ev e' x) : opOk n id e op = opOk n id e' op := by
  unfold opOk
  rw [Bool.eq_iff_iff, List.all_eq_true, List.all_eq_true]
  constructor
  · intro a x hx; rw [← h x (by simpa using hx)]; exact a x hx
  · intro a x hx; rw [h x (by simpa using hx)]; exact a x hx
theorem refOk_mono {n m : Nat} (h : n ≤ m) {a : AV} (x : refOk n id a = true) : refOk m id a = true := by
  cases a <;> simp only [refOk, Bool.and_eq_true, decide_eq_true_eq] at x ⊢ <;> exact ⟨by omega, x.2⟩
theorem opOk_mono {n m : Nat} (h : n ≤ m) {e : Env} {op : Op} (x : opOk n id e op = true) : opOk m id e op = true := by
  unfold opOk at x ⊢
  rw [List.all_eq_true] at x ⊢
  exact fun y hy => refOk_mono h (x y hy)

theorem Imp.agree {o : Oper} {e e' : Env} {s : List Blk} {K K' : AV → List Blk → Prop} (h : ∀ x ∈ o.op.operands, ev e x = ev e' x) (hK : ∀ r s, K r s → K' r s) (x : Imp cx id o e s K) : Imp cx id o e' s K' := by
  obtain ⟨h1, f, args, h2, blk, post, h3, h4, h5, h6⟩ := x
  exact ⟨h1, f, args, by rw [← xop_agree h]; exact h2, blk, post, h3, h4, h5, fun r b hp => hK _ _ (h6 r b hp)⟩

theorem ChI.congr (hK : ∀ e e' s, Eqv e e' → K e s → K e' s) : ∀ {l : List Nat} {e e' : Env} {s : List Blk}, Eqv e e' → ChI cx ops im id K l e s → ChI cx ops im id K l e' s
  | [], e, e', s, h, x => hK e e' s h x
  | i :: r, e, e', s, h, x => by
    unfold ChI at x ⊢
    split at x
    · exact x.elim
    · rename_i o ho
      cases hi : im.contains i with
      | true =>
        rw [hi] at x
        exact Imp.agree (fun y _ => ev_agree fun t _ => h t) (fun r' s' z => ChI.congr hK (h.put _ _) z) x
      | false =>
        rw [hi] at x
        obtain ⟨h1, cv, v, s', h2, h3⟩ := x
        exact ⟨fun hr hb => by rw [← opOk_agree (e := e) (fun y _ => ev_agree fun t _ => h t)]; exact h1 hr hb, cv, v, s', h2.agree fun t _ => h t, ChI.congr hK (h.put _ _) h3⟩

theorem put_swap {e : Env} {d d' : Option Tmp} {v v' : AV} (h : ∀ t, d = some t → d' ≠ some t) : Eqv (put (put e d v) d' v') (put (put e d' v') d v) := fun t => by
  rw [get_put, get_put, get_put, get_put]
  by_cases h1 : d = some t
  · simp [h1, h t h1]
  · simp [h1]

theorem alloc_does {s s1 : List Blk} {o : Oper} {cv v : AV} {e : Env} (ha : isAlloc o.op = true) (h : Does cx ops s o cv e v s1) : s1 = s ∨ ∃ b, s1 = s ++ [b] := by
  have key : DoesOp cx s o cv e v s1 → s1 = s ∨ ∃ b, s1 = s ++ [b] := by
    intro h
    cases ho : o.op <;> rw [ho] at ha <;> simp [isAlloc] at ha
    rename_i t
    unfold DoesOp at h
    rw [ho] at h
    simp only [xop] at h
    unfold xalloc at h
    cases hr : isRow (cx.P.underlying t) with
    | true =>
      rw [hr] at h
      simp only [cond_true, xnew] at h
      exact .inr ⟨_, h.2.2.2⟩
    | false =>
      rw [hr] at h
      simp only [cond_false] at h
      split at h
      · rename_i z hz
        split at hz
        · simp [xnew] at hz
        · cases hz
      · rename_i z hz
        split at hz
        · simp [xnew] at hz
        · cases hz
      · rename_i p u s2 hz
        split at hz
        · simp only [xnew, Res.sto.injEq] at hz
          obtain ⟨_, _, rfl⟩ := hz
          exact .inr ⟨_, h.2.2.2⟩
        · cases hz
      · rename_i hz
        split at hz <;> simp [xnew] at hz
      · rename_i hz
        split at hz <;> simp [xnew] at hz
      · exact h.elim
  unfold Does at h
  split at h
  · exact key h
  · split at h
    · rcases h with ⟨_, h⟩ | ⟨_, _, h⟩
      · exact key h
      · exact .inl h
    · exact h.elim

/-- a new block is the same whatever the others hold -/
theorem alloc_any {s s1 : List Blk} {o : Oper} {cv v : AV} {e : Env} (ha : isAlloc o.op = true) (h : Does cx ops s o cv e v s1) :
    ∃ t, s1 = s ++ t ∧ ∀ s2 cv2, s2.length = s.length → Does cx ops s2 o cv2 e v (s2 ++ t) := by
  have key : DoesOp cx s o cv e v s1 → ∃ t, s1 = s ++ t ∧ ∀ s2 cv2, s2.length = s.length → DoesOp cx s2 o cv2 e v (s2 ++ t) := by
    intro h
    cases ho : o.op <;> rw [ho] at ha <;> simp [isAlloc] at ha
    rename_i t
    unfold DoesOp at h
    rw [ho] at h
    simp only [xop] at h
    unfold xalloc at h
    cases hr : isRow (cx.P.underlying t) with
    | true =>
      rw [hr] at h
      simp only [cond_true, xnew] at h
      obtain ⟨h1, h2, h3, h4⟩ := h
      refine ⟨_, h4, fun s2 cv2 hl => ?_⟩
      unfold DoesOp
      rw [ho]
      simp only [xop, xalloc, hr, cond_true, xnew]
      exact ⟨h1, h2, by rw [hl]; exact h3, trivial⟩
    | false =>
      rw [hr] at h
      simp only [cond_false] at h
      split at h
      · rename_i z hz
        split at hz
        · simp [xnew] at hz
        · cases hz
      · rename_i z hz
        split at hz
        · simp [xnew] at hz
        · cases hz
      · rename_i p u s2 hz
        split at hz
        · rename_i x hq
          simp only [xnew, Res.sto.injEq] at hz
          obtain ⟨rfl, rfl, rfl⟩ := hz
          obtain ⟨h1, h2, h3, h4⟩ := h
          refine ⟨_, h4, fun s3 cv2 hl => ?_⟩
          unfold DoesOp
          rw [ho]
          simp only [xop, xalloc, hr, cond_false, hq, xnew]
          exact ⟨h1, h2, by rw [hl]; exact h3, trivial⟩
        · cases hz
      · rename_i hz
        split at hz <;> simp [xnew] at hz
      · rename_i hz
        split at hz <;> simp [xnew] at hz
      · exact h.elim
  unfold Does at h
  split at h
  · rename_i hg
    obtain ⟨t, h1, h2⟩ := key h
    exact ⟨t, h1, fun s2 cv2 hl => by unfold Does; rw [hg]; exact h2 s2 cv2 hl⟩
  · rename_i j want hg
    split at h
    · rename_i b hb
      rcases h with ⟨hw, h⟩ | ⟨hw, hv, hs⟩
      · obtain ⟨t, h1, h2⟩ := key h
        exact ⟨t, h1, fun s2 cv2 hl => by unfold Does; rw [hg]; simp only [hb]; exact .inl ⟨hw, h2 s2 cv2 hl⟩⟩
      · exact ⟨[], by simp [hs], fun s2 cv2 hl => by unfold Does; rw [hg]; simp only [hb]; exact .inr ⟨hw, hv, by simp⟩⟩
    · exact h.elim
theorem alloc_det {s s1 s2 : List Blk} {o : Oper} {cv cv2 v v2 : AV} {e : Env} (ha : isAlloc o.op = true) (h : Does cx ops s o cv e v s1) (h2 : Does cx ops s o cv2 e v2 s2) : v = v2 ∧ s1 = s2 := by
  have key : DoesOp cx s o cv e v s1 → DoesOp cx s o cv2 e v2 s2 → v = v2 ∧ s1 = s2 := by
    intro h h2
    cases ho : o.op <;> rw [ho] at ha <;> simp [isAlloc] at ha
    rename_i t
    unfold DoesOp at h h2
    rw [ho] at h h2
    revert h h2
    have hn : ∀ f args, xop false true cx.P e s (.alloc t) ≠ .call f args := by
      intro f args
      simp only [xop]
      unfold xalloc
      cases isRow (cx.P.underlying t) with
      | true => simp [xnew]
      | false =>
        simp only [cond_false]
        split <;> simp [xnew]
    cases hx : xop false true cx.P e s (.alloc t) with
    | ok u => intro h h2; exact ⟨by rw [h.1, h2.1], by rw [h.2, h2.2]⟩
    | side p u => intro h h2; exact ⟨by rw [h.2.1, h2.2.1], by rw [h.2.2, h2.2.2]⟩
    | sto p u s' => intro h h2; exact ⟨by rw [h.2.2.1, h2.2.2.1], by rw [h.2.2.2, h2.2.2.2]⟩
    | pick b x y => intro h h2; exact ⟨by rw [h.1, h2.1], by rw [h.2, h2.2]⟩
    | call f args => exact (hn _ _ hx).elim
    | anyb p => intro h _; exact h.elim
    | stuck => intro h _; exact h.elim
  unfold Does at h h2
  split at h
  · rename_i hg; rw [hg] at h2; exact key h h2
  · rename_i j want hg
    rw [hg] at h2
    simp only at h2
    split at h
    · rename_i b hb
      rw [hb] at h2
      simp only at h2
      rcases h with ⟨h1, h⟩ | ⟨h1, h, h'⟩ <;> rcases h2 with ⟨h3, h4⟩ | ⟨h3, h4, h4'⟩
      · exact key h h4
      · exact (h3 h1).elim
      · exact (h1 h3).elim
      · exact ⟨by rw [h, h4], by rw [h', h4']⟩
    · exact h.elim

theorem does_val {s s1 : List Blk} {o : Oper} {cv v : AV} {e : Env} (ha : isVal o.op = true) (h : Does cx ops s o cv e v s1) : s1 = s ∧ ∀ s2, Does cx ops s2 o cv e v s2 := by
  have key : DoesOp cx s o cv e v s1 → s1 = s ∧ ∀ s2, DoesOp cx s2 o cv e v s2 := by
    intro h
    have hx : ∀ s2, xop false true cx.P e s2 o.op = xop false true cx.P e s o.op := fun s2 => xop_val ha
    have hr : ∀ p u s', xop false true cx.P e s o.op ≠ .sto p u s' := by
      intro p u s'
      cases ho : o.op with
      | call c =>
        rw [ho] at ha
        cases hc : c.callee with
        | value f =>
          simp only [xop, hc]
          unfold xcall
          split <;> simp
        | _ => simp [isVal, hc] at ha
      | _ => rw [ho] at ha; simp [isVal] at ha
    unfold DoesOp at h ⊢
    revert h
    cases hq : xop false true cx.P e s o.op with
    | ok u => intro h; exact ⟨h.2, fun s2 => by rw [hx, hq]; exact ⟨h.1, rfl⟩⟩
    | side p u => intro h; exact ⟨h.2.2, fun s2 => by rw [hx, hq]; exact ⟨h.1, h.2.1, rfl⟩⟩
    | sto p u s' => exact (hr _ _ _ hq).elim
    | pick b x y => intro h; exact ⟨h.2, fun s2 => by rw [hx, hq]; exact ⟨h.1, rfl⟩⟩
    | call f args => intro h; exact ⟨h.2.2.2, fun s2 => by rw [hx, hq]; exact ⟨h.1, h.2.1, h.2.2.1, rfl⟩⟩
    | anyb p => intro h; exact h.elim
    | stuck => intro h; exact h.elim
  unfold Does at h ⊢
  split at h
  · exact key h
  · rename_i j want hg
    split at h
    · rename_i b hb
      rcases h with ⟨hw, h⟩ | ⟨hw, hv, hs⟩
      · exact ⟨(key h).1, fun s2 => .inl ⟨hw, (key h).2 s2⟩⟩
      · exact ⟨hs, fun s2 => .inr ⟨hw, hv, rfl⟩⟩
    · exact h.elim

theorem ChI.swap {opl : List Oper} (hops : ops = opl.toArray) (hK : ∀ e e' s, Eqv e e' → K e s → K e' s) {i j : Nat} {r : List Nat} (hok : okI opl im j i = true) {e : Env} {s : List Blk} (x : ChI cx ops im id K (j :: i :: r) e s) :
    ChI cx ops im id K (i :: j :: r) e s := by
  unfold okI at hok
  split at hok
  rotate_left
  · cases hok
  rename_i oj oi hj' hi'
  have hj : ops[j]? = some oj := by rw [hops]; simpa using hj'
  have hi : ops[i]? = some oi := by rw [hops]; simpa using hi'
  simp only [Bool.and_eq_true] at hok
  obtain ⟨ha, hok⟩ := hok
  rw [← hops] at ha
  obtain ⟨a1, a2, a3⟩ := Oper.apart_spec ha
  -- operands of i do not see j's result, and the other way round
  have gi : ∀ (e : Env) (v : AV), Agree ops oi (put e oj.dst v) e := fun e v t ht => by
    rw [get_put, if_neg]; intro h; exact a1 t h ht
  have gj : ∀ (e : Env) (v : AV), Agree ops oj e (put e oi.dst v) := fun e v t ht => by
    rw [get_put, if_neg]; intro h; exact a3 t h ht
  have sw : ∀ (e : Env) (v u : AV), Eqv (put (put e oj.dst v) oi.dst u) (put (put e oi.dst u) oj.dst v) := fun e v u => put_swap a2
  simp only [ChI, hi, hj] at x ⊢
  cases mi : im.contains i with
  | true =>
    rw [mi] at hok x
    simp only [cond_true, Bool.and_eq_true, Bool.not_eq_true'] at hok
    obtain ⟨mj, rj⟩ := hok
    rw [mj] at x ⊢
    simp only [cond_true, cond_false] at x ⊢
    obtain ⟨o1, cv, v, s', d1, y⟩ := x
    obtain ⟨rfl, _⟩ := does_reader rj (o1 rj) (Agr.set (id := id) .dead) d1
    obtain ⟨h1, f, args, h2, blk, post, h3, h4, h5, h6⟩ := y
    refine ⟨h1, f, args, by rw [← xop_agree (agree_ops (gi e v))]; exact h2, blk, post, h3, h4, h5, fun u b hp => ?_⟩
    have hs := (does_reader rj (o1 rj) (Agr.set b) d1).2
    refine ⟨fun _ hb => ?_, cv, v, _, hs.agree (gj e u), ChI.congr hK (sw e v u) (h6 u b hp)⟩
    rw [← opOk_agree (e := e) (agree_ops (gj e u)), List.length_set]
    exact o1 rj hb
  | false =>
    rw [mi] at hok x
    simp only [cond_false] at hok x ⊢
    cases mj : im.contains j with
    | true =>
      rw [mj] at hok x
      simp only [cond_true] at hok x ⊢
      obtain ⟨h1, f, args, h2, blk, post, h3, h4, ⟨u0, b0, h5⟩, h6⟩ := x
      obtain ⟨o0, cv0, v0, s0, d0, z0⟩ := h6 u0 b0 h5
      simp only [Bool.or_eq_true, Bool.and_eq_true] at hok
      rcases hok with hok | ⟨hok, hval⟩
      rotate_left
      · have hni : reader oi.op = false := by
          cases ho : oi.op <;> rw [ho] at hok <;> simp [isAlloc] at hok
          rfl
        have hid := (List.getElem?_eq_some_iff.1 h3).1
        obtain ⟨t, e1, d1⟩ := alloc_any hok (d0.agree (gi e u0))
        have d0s := d1 s cv0 (by simp)
        refine ⟨fun hr => (by rw [hni] at hr; cases hr), cv0, v0, s ++ t, d0s, h1, f, args, ?_, blk, post, ?_, h4, ⟨u0, b0, h5⟩, fun u b hp => ?_⟩
        · rw [← xop_agree (agree_ops (gj e v0)), xop_val (s' := s) hval]; exact h2
        · rw [List.getElem?_append_left hid]; exact h3
        · obtain ⟨_, cv, v, s', d, y⟩ := h6 u b hp
          obtain ⟨t', e2, d2⟩ := alloc_any hok (d.agree (gi e u))
          obtain ⟨e3, e4⟩ := alloc_det hok (d2 s cv (by simp)) d0s
          subst e3
          have e5 : t' = t := List.append_cancel_left e4
          subst e5
          rw [List.set_append_left _ _ hid, ← e2]
          exact ChI.congr hK (sw e u v) y
      have ok0 : blind oi.op = false → opOk s.length id e oi.op = true := fun hb => by
        have := o0 hok hb
        rw [opOk_agree (agree_ops (gi e u0)), List.length_set] at this
        exact this
      have d0' : Does cx ops (s.set id b0) oi cv0 e v0 s0 := d0.agree (gi e u0)
      have d0s := (does_reader hok ok0 ((Agr.set (s := s) (id := id) b0).symm) d0').2
      refine ⟨fun _ => ok0, cv0, v0, s, d0s, h1, f, args, ?_, blk, post, h3, h4, ⟨u0, b0, h5⟩, fun u b hp => ?_⟩
      · rw [← xop_agree (agree_ops (gj e v0))]; exact h2
      · obtain ⟨_, cv, v, s', d, y⟩ := h6 u b hp
        have d' : Does cx ops (s.set id b) oi cv e v s' := d.agree (gi e u)
        obtain ⟨e1, ds⟩ := does_reader hok ok0 ((Agr.set (s := s) (id := id) b).symm) d'
        subst e1
        have := does_det hok d0s ds
        subst this
        exact ChI.congr hK (sw e u v0) y
    | false =>
      rw [mj] at hok x
      simp only [cond_false] at hok x ⊢
      obtain ⟨o1, cv, v, s1, h1, o2, cu, u, s2, h2, h3⟩ := x
      have h2' : Does cx ops s1 oi cu e u s2 := h2.agree (gi e v)
      have h1' : ∀ {z z'}, Does cx ops z oj cv e v z' → Does cx ops z oj cv (put e oi.dst u) v z' := fun hd => hd.agree (gj e u)
      have h3' := ChI.congr hK (sw e v u) h3
      have oi' : ∀ {n}, reader oi.op = true → opOk n id (put e oj.dst v) oi.op = opOk n id e oi.op := fun _ => opOk_agree (agree_ops (gi e v))
      have oj' : ∀ {n}, opOk n id e oj.op = opOk n id (put e oi.dst u) oj.op := opOk_agree (agree_ops (gj e u))
      simp only [Bool.or_eq_true, Bool.and_eq_true, together] at hok
      rcases hok with ((⟨c1, c2⟩ | c1) | c1) | ⟨c1, c2⟩
      · have e1 := h1.calm c1
        subst e1
        have e2 := h2.calm c2
        subst e2
        exact ⟨fun hr hb => by rw [← oi' hr]; exact o2 hr hb, cu, u, _, h2', fun hr hb => by rw [← oj']; exact o1 hr hb, cv, v, _, h1' h1, h3'⟩
      · have e1 := h1.calm (blind_calm c1)
        subst e1
        exact ⟨fun hr hb => by rw [← oi' hr]; exact o2 hr hb, cu, u, _, h2', fun hr hb => (by rw [c1] at hb; cases hb), cv, v, _, h1' (h1.blind c1), h3'⟩
      · have e2 := h2.calm (blind_calm c1)
        subst e2
        exact ⟨fun hr hb => (by rw [c1] at hb; cases hb), cu, u, _, h2'.blind c1, fun hr hb => by rw [← oj']; exact o1 hr hb, cv, v, _, h1' h1, h3'⟩
      · rcases c1 with c1 | c1
        rotate_left
        · obtain ⟨rfl, dv⟩ := does_val c1 h1
          have hni : reader oi.op = false := by
            cases ho : oi.op <;> rw [ho] at c2 <;> simp [isAlloc] at c2
            rfl
          have hnj : reader oj.op = false := by
            cases ho : oj.op <;> rw [ho] at c1 <;> simp [isVal] at c1
            rename_i c
            simp only [reader]
            split <;> first | rfl | (rename_i hc; simp [hc] at c1)
          exact ⟨fun hr => (by rw [hni] at hr; cases hr), cu, u, _, h2', fun hr => (by rw [hnj] at hr; cases hr), cv, v, _, h1' (dv _), h3'⟩
        have ok1 := o1 c1
        obtain ⟨rfl, _⟩ := does_reader c1 ok1 (Agr.set (id := id) .dead) h1
        have hni : reader oi.op = false := by
          cases ho : oi.op <;> rw [ho] at c2 <;> simp [isAlloc] at c2
          rfl
        rcases alloc_does c2 h2' with e1 | ⟨b, e1⟩
        · subst e1
          exact ⟨fun hr => (by rw [hni] at hr; cases hr), cu, u, _, h2', fun hr hb => by rw [← oj']; exact ok1 hb, cv, v, _, h1' h1, h3'⟩
        · subst e1
          exact ⟨fun hr => (by rw [hni] at hr; cases hr), cu, u, _, h2', fun hr hb => by rw [← oj']; exact opOk_mono (by simp) (ok1 hb), cv, v, _, h1' (does_reader c1 ok1 (Agr.push b) h1).2, h3'⟩

theorem ChI.front {opl : List Oper} (hops : ops = opl.toArray) (hK : ∀ e e' s, Eqv e e' → K e s → K e' s) : ∀ (l : List Nat) (i : Nat) (r : List Nat) (e : Env) (s : List Blk), (∀ j ∈ l, okI opl im j i = true) →
    ChI cx ops im id K (l ++ i :: r) e s → ChI cx ops im id K (i :: (l ++ r)) e s
  | [], _, _, _, _, _, x => x
  | j :: l, i, r, e, s, h, x => by
    refine ChI.swap hops hK (h j (by simp)) ?_
    have ih := fun e s => ChI.front hops hK l i r e s fun k hk => h k (by simp [hk])
    simp only [List.cons_append, ChI] at x ⊢
    split at x
    · exact x.elim
    · rename_i o ho
      cases hm : im.contains j with
      | true =>
        rw [hm] at x
        exact Imp.agree (fun _ _ => rfl) (fun r' s' z => ih _ _ z) x
      | false =>
        rw [hm] at x
        obtain ⟨h1, cv, v, s', h2, h3⟩ := x
        exact ⟨h1, cv, v, s', h2, ih _ _ h3⟩
end

section
variable {c : Cx} {k : List It} {e : Env} {s : List Blk}

/-- whatever order is drawn, whatever is carried from operation to operation -/
theorem any_of_gen {ops : List Oper} {okp : Nat → Nat → Bool} (Ch : List Nat → Env → List Blk → Prop) (hok : drawOkG okp ops = true) (hnil : ∀ e s, Ch [] e s → AWp c k e s)
    (hfr : ∀ l i r e s, (∀ j ∈ l, okp j i = true) → Ch (l ++ i :: r) e s → Ch (i :: (l ++ r)) e s)
    (hst : ∀ i o r e s a w (Kc : Act → World → Prop), ops[i]? = some o → Ch (i :: r) e s → Sim c e s a w → (∀ e' s' a w, Ch r e' s' → Sim c e' s' a w → Kc a w) →
      if Region.wanted o (yielded ops.toArray a.tmps) then o.wp c.P a w Kc (WQ c k) else Kc (a.put o.dst undef) w) : ∀ (fuel : Nat) (listed : Array Bool) (l : List Nat) (e : Env) (s : List Blk) (a : Act) (w : World), listed.size = ops.length →
    l = (List.range ops.length).filter (fun i => !listed.getD i true) → l.length = fuel → (∀ i, listed.getD i true = true → ∀ j ∈ waits ops i, listed.getD j true = true) →
    Ch l e s → Sim c e s a w → wpAny c.P .any ops.toArray (WQ c k) fuel listed a w := by
  have hready : ∀ (listed : Array Bool) (i : Nat), i ∈ Region.ready .any ops.toArray listed ↔ i < ops.length ∧ listed.getD i true = false ∧ ∀ j ∈ waits ops i, listed.getD j false = true := by
    intro listed i
    unfold Region.ready
    simp only [List.mem_filter, List.mem_range, List.size_toArray, Bool.and_eq_true, Bool.not_eq_true']
    refine and_congr_right fun hi => and_congr_right fun _ => ?_
    have : ops[i]? = some ops[i] := by simp [hi]
    simp only [List.getElem?_toArray, this, Option.map_some, Option.getD_some, waits]
    rw [Array.all_eq_true_iff_forall_mem]
    constructor
    · intro h j hj
      simp only [List.mem_map, List.mem_filter, Array.mem_toList_iff] at hj
      obtain ⟨ed, ⟨h1, h2⟩, rfl⟩ := hj
      have := h ed h1
      simpa [h2] using this
    · intro h ed hed
      by_cases hb : Region.binds .any ed = true
      · have := h ed.on (by simp only [List.mem_map, List.mem_filter, Array.mem_toList_iff]; exact ⟨ed, ⟨hed, hb⟩, rfl⟩)
        simp [this]
      · simp [hb]
  have hback : ∀ i, i < ops.length → ∀ j ∈ waits ops i, j < i := by
    intro i hi j hj
    have := (List.all_eq_true.1 hok) i (by simpa using hi)
    simp only [Bool.and_eq_true] at this
    simpa using (List.all_eq_true.1 this.1) j hj
  intro fuel
  induction fuel with
  | zero =>
    intro listed l e s a w hsz hl hlen hcl hch hsim
    have hnil : l = [] := List.eq_nil_of_length_eq_zero hlen
    subst hnil
    refine ⟨?_, hnil _ _ hch a w hsim⟩
    apply List.eq_nil_iff_forall_not_mem.2
    intro i hi
    obtain ⟨h1, h2, _⟩ := (hready listed i).1 hi
    have : i ∈ (List.range ops.length).filter (fun i => !listed.getD i true) := List.mem_filter.2 ⟨by simpa using h1, by simp [h2]⟩
    rw [← hl] at this
    cases this
  | succ fuel ih =>
    intro listed l e s a w hsz hl hlen hcl hch hsim
    have hmem : ∀ i, i ∈ l ↔ i < ops.length ∧ listed.getD i true = false := by
      intro i; rw [hl]; simp [List.mem_filter]
    refine ⟨fun hr => ?_, fun i hi => ?_⟩
    · exfalso
      cases hq : l with
      | nil => rw [hq] at hlen; simp at hlen
      | cons i r =>
        have hil : i ∈ l := by rw [hq]; simp
        obtain ⟨h1, h2⟩ := (hmem i).1 hil
        have : i ∈ Region.ready .any ops.toArray listed := by
          refine (hready listed i).2 ⟨h1, h2, fun j hj => ?_⟩
          have hlt := hback i h1 j hj
          have hjn : j ∉ l := by
            intro hjl
            have hs : l.Pairwise (· < ·) := by rw [hl]; exact List.Pairwise.filter _ List.pairwise_lt_range
            rw [hq] at hs hjl
            rcases List.mem_cons.1 hjl with rfl | hjr
            · omega
            · have := (List.pairwise_cons.1 hs).1 j hjr; omega
          have hjlt : j < listed.size := by omega
          have := fun hf => hjn ((hmem j).2 ⟨by omega, hf⟩)
          cases hv : listed.getD j true with
          | true => simpa [Array.getD, hjlt] using hv
          | false => exact (this hv).elim
        rw [hr] at this
        cases this
    · obtain ⟨h1, h2, h3⟩ := (hready listed i).1 hi
      have hil : i ∈ l := (hmem i).2 ⟨h1, h2⟩
      obtain ⟨l1, l2, hsplit⟩ := List.append_of_mem hil
      have ho : ops.toArray[i]? = some ops[i] := by simp [h1]
      have hs : l.Pairwise (· < ·) := by rw [hl]; exact List.Pairwise.filter _ List.pairwise_lt_range
      have hapart : ∀ j ∈ l1, okp j i = true := by
        intro j hj
        have hjl : j ∈ l := by rw [hsplit]; simp [hj]
        obtain ⟨hj1, hj2⟩ := (hmem j).1 hjl
        have hji : j < i := by
          rw [hsplit] at hs
          exact (List.pairwise_append.1 hs).2.2 j hj i (by simp)
        have := (List.all_eq_true.1 hok) i (by simpa using h1)
        simp only [Bool.and_eq_true] at this
        have := (List.all_eq_true.1 this.2) j (by simpa using hji)
        simp only [Bool.or_eq_true] at this
        rcases this with h4 | h4
        · exact h4
        · exfalso
          have hm : j ∈ anc ops ops.length i := by simpa using h4
          have hw3 : ∀ j ∈ waits ops i, listed.getD j true = true := by
            intro j hj
            have h5 := h3 j hj
            have hjlt : j < listed.size := by have := hback i h1 j hj; omega
            simpa [Array.getD, hjlt] using h5
          have := anc_listed (L := fun j => listed.getD j true = true) hcl ops.length i hw3 j hm
          rw [this] at hj2
          cases hj2
      rw [hsplit] at hch
      have hfront := hfr l1 i l2 e s hapart hch
      have hlist : ∀ j, (listed.setIfInBounds i true).getD j true = if j = i then true else listed.getD j true := by
        intro j
        by_cases hj : j = i
        · subst hj
          have : j < listed.size := by omega
          simp [this]
        · rw [if_neg hj]
          simp [Array.getElem?_setIfInBounds_ne (Ne.symm hj)]
      have hnext : l1 ++ l2 = (List.range ops.length).filter (fun j => !(listed.setIfInBounds i true).getD j true) := by
        have e1 : (fun j => !(listed.setIfInBounds i true).getD j true) = fun j => (!listed.getD j true) && decide (j ≠ i) := by
          funext j
          rw [hlist]
          by_cases hj : j = i <;> simp [hj]
        have e2 : (List.range ops.length).filter (fun j => (!listed.getD j true) && decide (j ≠ i)) = l.filter (fun j => decide (j ≠ i)) := by
          rw [hl, List.filter_filter]
          congr 1
          funext j
          rw [Bool.and_comm]
        rw [e1, e2, hsplit]
        have hn : l.Nodup := hs.imp (fun h => Nat.ne_of_lt h)
        rw [hsplit] at hn
        have hn1 : i ∉ l1 := fun hh => (List.nodup_append.1 hn).2.2 i hh i (by simp) rfl
        have hn2 : i ∉ l2 := (List.nodup_cons.1 (List.nodup_append.1 hn).2.1).1
        simp only [List.filter_append, List.filter_cons]
        have f1 : ∀ x : List Nat, i ∉ x → x.filter (fun j => decide (j ≠ i)) = x := by
          intro x hx
          rw [List.filter_eq_self]
          intro y hy
          simp
          intro h; subst h; exact hx hy
        rw [f1 l1 hn1, f1 l2 hn2]
        simp
      have hgo : ∀ e' s' a w, Ch (l1 ++ l2) e' s' → Sim c e' s' a w → wpAny c.P .any ops.toArray (WQ c k) fuel (listed.setIfInBounds i true) a w := fun e' s' a' w' hrest hs' =>
        ih (listed.setIfInBounds i true) (l1 ++ l2) _ _ a' w' (by simpa using hsz) hnext (by rw [hsplit] at hlen; simp at hlen ⊢; omega) (fun j hj m hm => by
          rw [hlist] at hj ⊢
          by_cases hmi : m = i
          · simp [hmi]
          · rw [if_neg hmi]
            by_cases hji : j = i
            · subst hji
              have h5 := h3 m hm
              have hmlt : m < listed.size := by have := hback j h1 m hm; omega
              simpa [Array.getD, hmlt] using h5
            · rw [if_neg hji] at hj
              exact hcl j hj m hm) hrest hs'
      have hw := hst i ops[i] (l1 ++ l2) e s a w _ (by simp [h1]) hfront hsim hgo
      unfold wpOp
      rw [ho]
      simp only
      by_cases hwant : Region.wanted ops[i] (yielded ops.toArray a.tmps) = true
      · rw [if_pos hwant] at hw ⊢
        exact .inl hw
      · rw [if_neg hwant] at hw ⊢
        exact hw


/-- one operation -/
theorem chI_step {ops : List Oper} {im : List Nat} {id : Nat} (hdst : ∀ o ∈ ops, dOk c.fn.ntmps o.dst = true) (i : Nat) (o : Oper) (r : List Nat) (e : Env) (s : List Blk) (a : Act) (w : World) (Kc : Act → World → Prop) (ho : ops[i]? = some o)
    (x : ChI c ops.toArray im id (fun e s => AWp c k e s) (i :: r) e s) (hs : Sim c e s a w) (hK : ∀ e' s' a w, ChI c ops.toArray im id (fun e s => AWp c k e s) r e' s' → Sim c e' s' a w → Kc a w) :
    if Region.wanted o (yielded ops.toArray a.tmps) then o.wp c.P a w Kc (WQ c k) else Kc (a.put o.dst undef) w := by
  have ho' : ops.toArray[i]? = some o := by simpa using ho
  have hd := hdst o (List.mem_of_getElem? ho)
  simp only [ChI, ho'] at x
  cases hm : im.contains i with
  | false =>
    rw [hm] at x
    obtain ⟨_, cv, v, s', h2, h3⟩ := x
    exact does_wp hs hd h2 fun a w hs' => hK _ _ a w h3 hs'
  | true =>
    rw [hm] at x
    obtain ⟨hg, f, args, hx, blk, post, h3, h4, _, h6⟩ := x
    rw [if_pos (by simp [Region.wanted, hg])]
    obtain ⟨hh, ρ, hmm, hl, he, hdf, hsz, hX⟩ := hs
    have hsnd := xop_sound (P := c.P) (wr := false) (frz := true) (o := o) hmm he
    rw [hx] at hsnd
    obtain ⟨vs, hv, hr⟩ := hsnd
    unfold Oper.wp
    rw [hr h4.1]
    refine (h4.2 hh ρ s w vs h3 hmm hl hv).mono ?_
    rintro en w' ⟨u, r', b, h', ρ', rfl, hp, hm', hlt, rv⟩
    have he' : EnvOk h' ρ' (s.set id b) e a := fun t => (he t).mono hlt.hle hlt.keep
    exact hK _ _ _ _ (h6 r' b hp) ⟨h', ρ', hm', hl.trans hlt, he'.put (by rw [hsz]; exact hd) rv, by rw [put_defers']; exact hdf, by rw [put_size]; exact hsz, c.hx.later hmm hlt hX⟩

/-! ### the walk in the text's order -/
def rix (all r : List Oper) : Nat := all.length - r.length
def dck (b : Bool) (n id : Nat) (e : Env) (op : Op) : Prop := bif b then opOk n id e op = true else True
mutual
def dxi (c : Cx) (all : List Oper) (im : List Nat) (id : Nat) (k : List It) : Nat → List Oper → List AV → Env → List Blk → Prop
  | _, [], _, e, s => AWp c k e s
  | 0, _ :: _, _, _, _ => False
  | n + 1, o :: r, cs, e, s => bif im.contains (rix all (o :: r)) then
      (match o.guard, xop false true c.P e s o.op with
        | none, .call f args => ICall c f args id s (fun v s' => dxi c all im id k n r cs (put e o.dst v) s')
        | _, _ => False)
    else dck (reader o.op && !blind o.op) s.length id e o.op ∧ dxic c all im id k n (dgrd c all s o r cs e o.guard)
def dxic (c : Cx) (all : List Oper) (im : List Nat) (id : Nat) (k : List It) : Nat → Dn → Prop
  | n, .go r cs e s => dxi c all im id k n r cs e s
  | n, .two b r cs e r' cs' e' s => dbri c all im id k n b r cs e r' cs' e' s
  | n, .side p r cs e s => p ∧ dxi c all im id k n r cs e s
  | _, .fail => False
def dbri (c : Cx) (all : List Oper) (im : List Nat) (id : Nat) (k : List It) : Nat → Bool → List Oper → List AV → Env → List Oper → List AV → Env → List Blk → Prop
  | 0, _, _, _, _, _, _, _, _ => False
  | n + 1, b, r, cs, e, r', cs', e', s => (b = true → dxi c all im id k n r cs e s) ∧ (b = false → dxi c all im id k n r' cs' e' s)
end
theorem dbri_true {all : List Oper} {im : List Nat} {id n : Nat} {r cs e r' cs' e' s} : dbri c all im id k (n + 1) true r cs e r' cs' e' s = dxi c all im id k n r cs e s := by rw [dbri]; simp
theorem dbri_false {all : List Oper} {im : List Nat} {id n : Nat} {r cs e r' cs' e' s} : dbri c all im id k (n + 1) false r cs e r' cs' e' s = dxi c all im id k n r' cs' e' s := by rw [dbri]; simp

theorem dxi_op {all : List Oper} {im : List Nat} {id n : Nat} {o : Oper} {r : List Oper} {cs : List AV} (hm : im.contains (rix all (o :: r)) = false) (hg : o.guard = none) (h : dxi c all im id k n (o :: r) cs e s) :
    dck (reader o.op && !blind o.op) s.length id e o.op ∧ ∃ cv v n' cs' s', DoesOp c s o cv e v s' ∧ dxi c all im id k n' r cs' (put e o.dst v) s' := by
  cases n with
  | zero => rw [dxi] at h; exact h.elim
  | succ n =>
    rw [dxi, hm] at h
    simp only [cond_false] at h
    refine ⟨h.1, ?_⟩
    replace h := h.2
    rw [hg] at h
    unfold dgrd at h
    unfold DoesOp
    revert h
    cases xop false true c.P e s o.op with
    | ok u => intro h; simp only [dres, dxic] at h; exact ⟨.any, u, n, cs, s, ⟨rfl, rfl⟩, h⟩
    | side p u => intro h; simp only [dres, dxic] at h; exact ⟨.any, u, n, cs, s, ⟨h.1, rfl, rfl⟩, h.2⟩
    | sto p u s' => intro h; simp only [dres, dxic] at h; exact ⟨.any, u, n, cs, s', ⟨h.1.1, h.1.2, rfl, rfl⟩, h.2⟩
    | pick b x y =>
      intro h; simp only [dres, dxic] at h
      cases n with
      | zero => rw [dbri] at h; exact h.elim
      | succ n =>
      rw [dbri] at h
      refine ⟨.any, _, n, cs, s, ⟨rfl, rfl⟩, ?_⟩
      cases b with
      | true => exact h.1 rfl
      | false => exact h.2 rfl
    | call f args =>
      intro h; simp only [dres] at h
      cases cs with
      | nil => simp only [dcall, dxic] at h
      | cons cv cs => simp only [dcall, dxic] at h; exact ⟨cv, cv, n, cs, s, ⟨h.1.1, h.1.2, rfl, rfl⟩, h.2⟩
    | anyb p => intro h; simp only [dres, dxic] at h
    | stuck => intro h; simp only [dres, dxic] at h

theorem dxi_step {all : List Oper} {im : List Nat} {id n : Nat} {o : Oper} {r : List Oper} {cs : List AV} (hm : im.contains (rix all (o :: r)) = false) (h : dxi c all im id k n (o :: r) cs e s) :
    dck (reader o.op && !blind o.op) s.length id e o.op ∧ ∃ cv v n' cs' s', Does c all.toArray s o cv e v s' ∧ dxi c all im id k n' r cs' (put e o.dst v) s' := by
  cases hg : o.guard with
  | none =>
    obtain ⟨h0, cv, v, n', cs', s', h1, h2⟩ := dxi_op hm hg h
    exact ⟨h0, cv, v, n', cs', s', by unfold Does; rw [hg]; exact h1, h2⟩
  | some jw =>
    obtain ⟨j, want⟩ := jw
    cases n with
    | zero => rw [dxi] at h; exact h.elim
    | succ n =>
      rw [dxi, hm] at h
      simp only [cond_false] at h
      refine ⟨h.1, ?_⟩
      replace h := h.2
      rw [hg] at h
      unfold dgrd dyld at h
      cases hy : yldD want e all[j]? with
      | none => simp only [hy, dxic] at h
      | some b =>
        simp only [hy] at h
        have key : (b = want → ∃ n', dxi c all im id k n' ({ o with guard := none } :: r) cs e s) ∧ (b ≠ want → ∃ n', dxi c all im id k n' r cs (put e o.dst (.raw undef)) s) := by
          cases n with
          | zero => cases want <;> simp only [cond_true, cond_false, dxic, dbri] at h
          | succ n =>
            cases want <;> simp only [cond_true, cond_false, dxic, dbri] at h <;> cases b <;>
              first
              | exact ⟨fun _ => ⟨n, h.1 rfl⟩, fun hh => (hh rfl).elim⟩
              | exact ⟨fun _ => ⟨n, h.2 rfl⟩, fun hh => (hh rfl).elim⟩
              | exact ⟨fun hh => (by cases hh), fun _ => ⟨n, h.1 rfl⟩⟩
              | exact ⟨fun hh => (by cases hh), fun _ => ⟨n, h.2 rfl⟩⟩
        have hy' : yldD want e all.toArray[j]? = some b := by simpa using hy
        by_cases hb : b = want
        · obtain ⟨n1, h1⟩ := key.1 hb
          obtain ⟨_, cv, v, n', cs', s', h1, h2⟩ := dxi_op (o := { o with guard := none }) (by exact hm) rfl h1
          refine ⟨cv, v, n', cs', s', ?_, h2⟩
          unfold Does
          rw [hg]
          simp only [hy']
          exact .inl ⟨hb, h1⟩
        · obtain ⟨n1, h1⟩ := key.2 hb
          refine ⟨.any, .raw undef, n1, cs, s, ?_, h1⟩
          unfold Does
          rw [hg]
          simp only [hy']
          exact .inr ⟨hb, trivial, trivial⟩

theorem chI_of_dxi {all : List Oper} {im : List Nat} {id : Nat} : ∀ {r : List Oper} {m n : Nat} {cs : List AV} {e : Env} {s : List Blk}, (∀ (j : Nat), r[j]? = all[m + j]?) → all.length = m + r.length → dxi c all im id k n r cs e s → ChI c all.toArray im id (fun e s => AWp c k e s) (List.range' m r.length) e s
  | [], m, n, cs, e, s, _, _, h => by
    rw [dxi] at h
    exact h
  | o :: r, m, n, cs, e, s, hr, hlen, h => by
    have h0 : all.toArray[m]? = some o := by have := hr 0; simpa using this.symm
    have hix : rix all (o :: r) = m := by unfold rix; omega
    have hr' : ∀ j, r[j]? = all[m + 1 + j]? := fun j => by have := hr (j + 1); simpa [Nat.add_assoc, Nat.add_comm 1 j] using this
    simp only [List.length_cons, List.range'_succ, ChI, h0]
    cases hm : im.contains m with
    | true =>
      simp only [cond_true]
      cases n with
      | zero => rw [dxi] at h; exact h.elim
      | succ n =>
        rw [dxi, hix, hm] at h
        simp only [cond_true] at h
        split at h
        · rename_i f args hg hx
          obtain ⟨blk, post, h3, h4, h5, h6⟩ := h
          exact ⟨hg, f, args, hx, blk, post, h3, h4, h5, fun u b hp => chI_of_dxi hr' (by simp at hlen; omega) (h6 u b hp)⟩
        · exact h.elim
    | false =>
      simp only [cond_false]
      obtain ⟨hd, cv, v, n', cs', s', h1, h2⟩ := dxi_step (by rw [hix]; exact hm) h
      refine ⟨fun hr hb => ?_, cv, v, s', h1, chI_of_dxi hr' (by simp at hlen; omega) h2⟩
      unfold dck at hd
      simpa [hr, hb] using hd

/-- A STATEMENT WHOSE ORDER IS OPEN, in which the calls with the numbers 'im' change the block 'id'. -/
theorem adrawI (im : List Nat) (bid : Nat) (cs : List AV) {id : Nat} {ops : List Oper} (hm : c.P.follows .mixedOrders = true) (hok : drawOkG (okI ops im) ops = true) {N : Nat} (hN : c.fn.ntmps = N) (hdst : ops.all (fun o => dOk N o.dst) = true) (n : Nat)
    (h : dxi c ops im bid k n ops cs e s) : AWp c (.code (.region id ops.toArray true) :: k) e s := by
  intro a w hsim
  have hch := chI_of_dxi (m := 0) (by intro j; simp) (by simp) h
  rw [← List.range_eq_range'] at hch
  refine wp_region_any hm ?_
  have hsim' : Sim c e s a { w with drawn := w.drawn + 1 } := by
    obtain ⟨hh, ρ, hmm, hl, he, hdf, hsz, hX⟩ := hsim
    have sm : Same w { w with drawn := w.drawn + 1 } := Same.drew w
    exact ⟨hh, ρ, hmm.same sm, hl.trans (Later.same sm), he, hdf, hsz, c.hx.later hmm (Later.same sm) hX⟩
  have hd : ∀ o ∈ ops, dOk c.fn.ntmps o.dst = true := fun o ho => by rw [hN]; exact (List.all_eq_true.1 hdst) o ho
  refine any_of_gen (okp := okI ops im) (ChI c ops.toArray im bid (fun e s => AWp c k e s)) hok (fun e s x => x) (fun l i r e s hj x => ChI.front rfl AWp.K l i r e s hj x) (fun i o r e s a w Kc ho x hs hK => chI_step hd i o r e s a w Kc ho x hs hK)
    ops.length (Array.replicate ops.length false) (List.range ops.length) e s a _ (by simp) ?_ (by simp) ?_ hch hsim'
  · symm
    rw [List.filter_eq_self]
    intro i hi
    simp at hi
    simp [hi]
  · intro i hi j hj
    exfalso
    by_cases h1 : i < ops.length
    · simp [h1] at hi
    · unfold waits at hj
      have : ops[i]? = none := by simp; omega
      simp [this] at hj

/-- a method's call in it -/
theorem icall {f : FuncId} {es : Nat} {agg : AV} {args : List AV} {post : AV → AV → Prop} {K : AV → List Blk → Prop} (hc : Mc c.P f es agg args post) (ha : args.all nr1 = true) (hg : nr1 agg = true) {id : Nat} (hid : s[id]? = some (.arr es [agg]))
    (hin : ∃ r agg', post r agg') (hk : ∀ r agg', post r agg' → K r (s.set id (.arr es [agg']))) : ICall c f (.ptr id 1 0 0 :: args) id s K := by
  refine ⟨_, fun r b => ∃ agg', b = .arr es [agg'] ∧ post r agg', hid, ⟨hc.1, fun h ρ s w vs hs m l r => ?_⟩, ?_, ?_⟩
  · refine ((hc.ct ha hg hs).2 h ρ w vs m r).mono ?_
    rintro en w' ⟨v, r, s', h', ρ', rfl, ⟨agg', hp, _, rfl⟩, m', l', rv⟩
    exact ⟨v, r, _, h', ρ', rfl, ⟨agg', rfl, hp⟩, m', l', rv⟩
  · obtain ⟨r, agg', hp⟩ := hin
    exact ⟨r, _, agg', rfl, hp⟩
  · rintro r b ⟨agg', rfl, hp⟩
    exact hk r agg' hp
theorem icallH {g : Std} (hle : Le g c.w c.ρ) {f : FuncId} {es : Nat} {agg : AV} {args : List AV} {post : AV → AV → Prop} {K : AV → List Blk → Prop} (hc : McH c.P g f es agg args post) (ha : args.all nr1 = true) (hg : nr1 agg = true) {id : Nat} (hid : s[id]? = some (.arr es [agg]))
    (hin : ∃ r agg', post r agg') (hk : ∀ r agg', post r agg' → K r (s.set id (.arr es [agg']))) : ICall c f (.ptr id 1 0 0 :: args) id s K := by
  refine ⟨_, fun r b => ∃ agg', b = .arr es [agg'] ∧ post r agg', hid, ⟨hc.1, fun h ρ s w vs hs m l r => ?_⟩, ?_, ?_⟩
  · refine ((hc.ct ha hg hs).2 h ρ w vs (hle.later l) m r).mono ?_
    rintro en w' ⟨v, r, s', h', ρ', rfl, ⟨agg', hp, _, rfl⟩, m', l', rv⟩
    exact ⟨v, r, _, h', ρ', rfl, ⟨agg', rfl, hp⟩, m', l', rv⟩
  · obtain ⟨r, agg', hp⟩ := hin
    exact ⟨r, _, agg', rfl, hp⟩
  · rintro r b ⟨agg', rfl, hp⟩
    exact hk r agg' hp
end
end Go.Av
/- Statements whose order is open and which put into several maps of one's own. Own work of this seat. -/
set_option linter.unusedSimpArgs false
set_option linter.unusedVariables false
namespace Go.Av
open Go Go.RowKit

/-- an operation that puts into the map 'd' -/
def putD (d : Nat) (e : Env) (o : Oper) : Prop := match o.guard, o.op with
  | none, .mapUpdate _ m _ _ => ev e m = .mp d
  | _, _ => False
/-- what is asked of each operation: those listed put into their maps; what reads looks at none of these -/
def pck (ids : List (Nat × Nat)) (i : Nat) (e : Env) (s : List Blk) (o : Oper) : Prop :=
  (match ids.lookup i with
    | some d => putD d e o
    | none => True) ∧ (bif reader o.op && !blind o.op then ids.all (fun p => opOk s.length p.2 e o.op) = true else True)

/-- a put changes its map alone, and looks at no other -/
theorem put_does {c : Cx} {ops : Array Oper} {s s1 : List Blk} {o : Oper} {cv v : AV} {e : Env} {t : TypeId} {m k u : Operand} {d : Nat} (hg : o.guard = none) (ho : o.op = .mapUpdate t m k u) (hm : ev e m = .mp d) (h : Does c ops s o cv e v s1) :
    v = .raw undef ∧ ∃ b, s1 = s.set d b ∧ ∀ s2 cv2, s2.getD d .dead = s.getD d .dead → Does c ops s2 o cv2 e v (s2.set d b) := by
  unfold Does at h
  rw [hg] at h
  simp only at h
  unfold DoesOp at h
  rw [ho] at h
  simp only [xop, hm] at h
  have hx : ∀ s2 : List Blk, s2.getD d .dead = s.getD d .dead → ∀ p w s3, xmput c.P s (.mp d) (ev e k) (ev e u) (c.P.underlying t) = .sto p w s3 → p ∧ w = .raw undef ∧ ∃ b, s3 = s.set d b ∧ (s.getD d .dead = .dead → False) ∧ xmput c.P s2 (.mp d) (ev e k) (ev e u) (c.P.underlying t) = .sto p w (s2.set d b) := by
    intro s2 hs p w s3
    cases ht : c.P.underlying t with
    | none => intro hq; cases hq
    | some td =>
      cases td <;> try (intro hq; cases hq; done)
      rename_i kt vt
      simp only [xmput]
      cases hk : c.P.underlying kt with
      | none => intro hq; cases hq
      | some dk =>
        simp only
        rw [hs]
        cases hb : s.getD d .dead with
        | arr e l => intro hq; cases hq
        | dead => intro hq; cases hq
        | mp es =>
          simp only [xmputB]
          cases isKey dk (ev e k) with
          | false => intro hq; cases hq
          | true =>
            simp only [cond_true]
            cases mfind dk (ev e k) es 0 with
            | none => intro hq; cases hq
            | some o =>
              cases o with
              | none =>
                simp only [xmputF, Res.sto.injEq]
                rintro ⟨rfl, rfl, rfl⟩
                exact ⟨trivial, rfl, _, rfl, by simp, rfl, rfl, rfl⟩
              | some y =>
                obtain ⟨i, z⟩ := y
                simp only [xmputF, Res.sto.injEq]
                rintro ⟨rfl, rfl, rfl⟩
                exact ⟨trivial, rfl, _, rfl, by simp, rfl, rfl, rfl⟩
  have hns : ∀ q, xmput c.P s (.mp d) (ev e k) (ev e u) (c.P.underlying t) = q → (match q with | .sto _ _ _ => True | .stuck => True | _ => False) := by
    intro q hq
    subst hq
    cases ht : c.P.underlying t with
    | none => trivial
    | some td =>
      cases td <;> try trivial
      rename_i kt vt
      simp only [xmput]
      cases hk : c.P.underlying kt with
      | none => trivial
      | some dk =>
        simp only
        cases hb : s.getD d .dead with
        | arr e l => trivial
        | dead => trivial
        | mp es =>
          simp only [xmputB]
          cases isKey dk (ev e k) with
          | false => trivial
          | true =>
            simp only [cond_true]
            cases mfind dk (ev e k) es 0 with
            | none => trivial
            | some o => cases o <;> trivial
  revert h
  cases hq : xmput c.P s (.mp d) (ev e k) (ev e u) (c.P.underlying t) with
  | sto p w s3 =>
    intro h
    obtain ⟨hc, hp, rfl, rfl⟩ := h
    obtain ⟨_, hw, b, hb, hnd, _⟩ := hx s rfl _ _ _ hq
    refine ⟨hw, b, hb, fun s2 cv2 hs => ?_⟩
    obtain ⟨_, _, b2, hb2, _, h2⟩ := hx s2 hs _ _ _ hq
    have this : s2.set d b2 = s2.set d b := by
      have hd : d < s.length := by
        rcases Nat.lt_or_ge d s.length with h3 | h3
        · exact h3
        · exact (hnd (by simp [List.getD, List.getElem?_eq_none h3])).elim
      have e1 : (s.set d b)[d]? = (s.set d b2)[d]? := by rw [← hb, ← hb2]
      simp [hd] at e1
      rw [e1]
    unfold Does
    rw [hg]
    simp only
    unfold DoesOp
    rw [ho]
    simp only [xop, hm, h2, this]
    exact ⟨rfl, hp, trivial, trivial⟩
  | ok w => exact (hns _ hq).elim
  | side p w => exact (hns _ hq).elim
  | pick b x y => exact (hns _ hq).elim
  | call f args => exact (hns _ hq).elim
  | anyb p => exact (hns _ hq).elim
  | stuck => intro h; exact h.elim

theorem putD_op {d : Nat} {e : Env} {o : Oper} (h : putD d e o) : o.guard = none ∧ ∃ t m k v, o.op = .mapUpdate t m k v ∧ ev e m = .mp d := by
  unfold putD at h
  split at h
  · rename_i t m k v hg ho
    exact ⟨hg, t, m, k, v, ho, h⟩
  · exact h.elim
theorem pck_agree {ids : List (Nat × Nat)} {i : Nat} {e e' : Env} {s s' : List Blk} {o : Oper} (h : ∀ x ∈ o.op.operands, ev e x = ev e' x) (hs : s.length = s'.length) (hp : pck ids i e s o) : pck ids i e' s' o := by
  obtain ⟨h1, h2⟩ := hp
  refine ⟨?_, ?_⟩
  · cases hl : ids.lookup i with
    | none => trivial
    | some d =>
      rw [hl] at h1
      simp only at h1 ⊢
      unfold putD at h1 ⊢
      cases hg : o.guard with
      | some x => rw [hg] at h1; exact h1.elim
      | none =>
        rw [hg] at h1
        cases ho : o.op <;> rw [ho] at h1 <;> simp only at h1 ⊢
        rw [← h _ (by rw [ho]; simp [Op.operands])]
        exact h1
  · cases hb : (reader o.op && !blind o.op) with
    | false => trivial
    | true =>
      rw [hb] at h2
      simp only [cond_true] at h2 ⊢
      rw [List.all_eq_true] at h2 ⊢
      intro p hp
      rw [← opOk_agree h, ← hs]
      exact h2 p hp
theorem pck_ok {ids : List (Nat × Nat)} {i : Nat} {e : Env} {s : List Blk} {o : Oper} (hp : pck ids i e s o) (hr : reader o.op = true) (hb : blind o.op = false) {j d : Nat} (hj : ids.lookup j = some d) : opOk s.length d e o.op = true := by
  have h2 := hp.2
  rw [hr, hb] at h2
  simp only [Bool.not_false, Bool.and_self, cond_true, List.all_eq_true] at h2
  have : ∀ {l : List (Nat × Nat)}, l.lookup j = some d → (j, d) ∈ l := by
    intro l
    induction l with
    | nil => intro h; simp at h
    | cons p r ih =>
      intro h
      rw [List.lookup_cons] at h
      split at h
      · rename_i hq
        have hq : j = p.1 := by simpa using hq
        simp only [Option.some.injEq] at h
        subst hq; subst h
        exact List.mem_cons_self
      · exact List.mem_cons_of_mem _ (ih h)
  exact h2 _ (this hj)
theorem pck_put {ids : List (Nat × Nat)} {i d : Nat} {e : Env} {s : List Blk} {o : Oper} (hp : pck ids i e s o) (hl : ids.lookup i = some d) : putD d e o := by
  have := hp.1
  rw [hl] at this
  exact this

def ChP (c : Cx) (ops : Array Oper) (ids : List (Nat × Nat)) (K : Env → List Blk → Prop) : List Nat → Env → List Blk → Prop
  | [], e, s => K e s
  | i :: r, e, s => match ops[i]? with
    | some o => pck ids i e s o ∧ ∃ cv v s', Does c ops s o cv e v s' ∧ ChP c ops ids K r (put e o.dst v) s'
    | none => False

/-- may i pass the earlier j? -/
def okPu (ops : List Oper) (ids : List (Nat × Nat)) (j i : Nat) : Bool := match ops[j]?, ops[i]? with
  | some oj, some oi => oj.apart ops.toArray oi && (together oj oi || (match ids.lookup j, ids.lookup i with
    | some a, some b => a != b
    | some _, none => reader oi.op
    | none, some _ => reader oj.op
    | none, none => false))
  | _, _ => false

section
variable {cx : Cx} {ops : Array Oper} {K : Env → List Blk → Prop} {ids : List (Nat × Nat)}
theorem ChP.congr (hK : ∀ e e' s, Eqv e e' → K e s → K e' s) : ∀ {l : List Nat} {e e' : Env} {s : List Blk}, Eqv e e' → ChP cx ops ids K l e s → ChP cx ops ids K l e' s
  | [], e, e', s, h, c => hK e e' s h c
  | i :: r, e, e', s, h, c => by
    unfold ChP at c ⊢
    split at c
    · rename_i o ho
      obtain ⟨h0, cv, v, s', h1, h2⟩ := c
      exact ⟨pck_agree (fun x _ => ev_agree fun t _ => h t) rfl h0, cv, v, s', h1.agree fun t _ => h t, ChP.congr hK (h.put _ _) h2⟩
    · exact c.elim
theorem ChP.swap {opl : List Oper} (hops : ops = opl.toArray) (hK : ∀ e e' s, Eqv e e' → K e s → K e' s) {i j : Nat} {r : List Nat} (hok : okPu opl ids j i = true) {e : Env} {s : List Blk} (c : ChP cx ops ids K (j :: i :: r) e s) :
    ChP cx ops ids K (i :: j :: r) e s := by
  unfold okPu at hok
  split at hok
  rotate_left
  · cases hok
  rename_i oj oi hj' hi'
  have hj : ops[j]? = some oj := by rw [hops]; simpa using hj'
  have hi : ops[i]? = some oi := by rw [hops]; simpa using hi'
  simp only [Bool.and_eq_true, Bool.or_eq_true] at hok
  obtain ⟨ha, hok⟩ := hok
  rw [← hops] at ha
  obtain ⟨a1, a2, a3⟩ := Oper.apart_spec ha
  simp only [ChP, hj, hi] at c ⊢
  obtain ⟨pj, cv, v, s1, h1, pi, cu, u, s2, h2, h3⟩ := c
  have gi : ∀ (e : Env) (v : AV), Agree ops oi (put e oj.dst v) e := fun e v t ht => by
    rw [get_put, if_neg]; intro h; exact a1 t h ht
  have gj : ∀ (e : Env) (v : AV), Agree ops oj e (put e oi.dst v) := fun e v t ht => by
    rw [get_put, if_neg]; intro h; exact a3 t h ht
  have h2' : Does cx ops s1 oi cu e u s2 := h2.agree (gi e v)
  have h1' : ∀ {z z'}, Does cx ops z oj cv e v z' → Does cx ops z oj cv (put e oi.dst u) v z' := fun hd => hd.agree (gj e u)
  have h3' := ChP.congr hK (put_swap a2) h3
  have pi' : ∀ s', s1.length = s'.length → pck ids i e s' oi := fun s' hs => pck_agree (agree_ops (gi e v)) hs pi
  have pj' : ∀ s', s.length = s'.length → pck ids j (put e oi.dst u) s' oj := fun s' hs => pck_agree (agree_ops (gj e u)) hs pj
  rcases hok with hok | hok
  · simp only [together, Bool.or_eq_true, Bool.and_eq_true] at hok
    have blind_free : ∀ {o : Oper} {k : Nat} {e : Env} {s s' : List Blk}, blind o.op = true → pck ids k e s o → pck ids k e s' o := fun hb hp => ⟨hp.1, by simp [hb]⟩
    rcases hok with (⟨c1, c2⟩ | c1) | c1
    · have e1 := h1.calm c1
      subst e1
      have e2 := h2.calm c2
      subst e2
      exact ⟨pi' _ rfl, cu, u, _, h2', pj' _ rfl, cv, v, _, h1' h1, h3'⟩
    · have e1 := h1.calm (blind_calm c1)
      subst e1
      exact ⟨pi' _ rfl, cu, u, _, h2', blind_free c1 (pj' _ rfl), cv, v, _, h1' (h1.blind c1), h3'⟩
    · have e2 := h2.calm (blind_calm c1)
      subst e2
      exact ⟨blind_free c1 (pi' _ rfl), cu, u, _, h2'.blind c1, pj' _ rfl, cv, v, _, h1' h1, h3'⟩
  split at hok
  · rename_i a b hla hlb
    have hab : a ≠ b := by simpa using hok
    obtain ⟨gj0, tj, mj, kj, vj, oj1, ej⟩ := putD_op (pck_put pj hla)
    obtain ⟨gi0, ti, mi, ki, vi, oi1, ei⟩ := putD_op (pck_put (pi' _ rfl) hlb)
    obtain ⟨hv, bj, rfl, hdj⟩ := put_does gj0 oj1 ej h1
    obtain ⟨hu, bi, rfl, hdi⟩ := put_does gi0 oi1 ei h2'
    have n1 : (s.set b bi).getD a .dead = s.getD a .dead := by simp only [List.getD, List.getElem?_set_ne (Ne.symm hab)]
    have n2 : s.getD b .dead = (s.set a bj).getD b .dead := by simp only [List.getD, List.getElem?_set_ne hab]
    refine ⟨pi' _ (by simp), cu, u, _, hdi s cu n2, pj' _ (by simp), cv, v, _, h1' (hdj _ cv n1), ?_⟩
    rw [List.set_comm _ _ (Ne.symm hab)]
    exact h3'
  · rename_i a hla hlb
    obtain ⟨gj0, tj, mj, kj, vj, oj1, ej⟩ := putD_op (pck_put pj hla)
    obtain ⟨hv, bj, rfl, hdj⟩ := put_does gj0 oj1 ej h1
    have ok0 : blind oi.op = false → opOk s.length a e oi.op = true := fun hb => pck_ok (pi' s (by simp)) hok hb hla
    obtain ⟨e1, ds⟩ := does_reader hok ok0 ((Agr.set (s := s) (id := a) bj).symm) h2'
    subst e1
    exact ⟨pi' _ (by simp), cu, u, _, ds, pj' _ rfl, cv, v, _, h1' h1, h3'⟩
  · rename_i b hla hlb
    obtain ⟨gi0, ti, mi, ki, vi, oi1, ei⟩ := putD_op (pck_put (pi' _ rfl) hlb)
    have ok0 : blind oj.op = false → opOk s.length b e oj.op = true := fun hb => pck_ok pj hok hb hlb
    obtain ⟨rfl, _⟩ := does_reader hok ok0 (Agr.set (id := b) .dead) h1
    obtain ⟨hu, bi, rfl, hdi⟩ := put_does gi0 oi1 ei h2'
    have hs := (does_reader hok ok0 (Agr.set (id := b) bi) h1).2
    exact ⟨pi' _ rfl, cu, u, _, h2', pj' _ (by simp), cv, v, _, h1' hs, h3'⟩
  · cases hok
theorem ChP.front {opl : List Oper} (hops : ops = opl.toArray) (hK : ∀ e e' s, Eqv e e' → K e s → K e' s) {i : Nat} {r : List Nat} : ∀ {l : List Nat} {e : Env} {s : List Blk}, (∀ j ∈ l, okPu opl ids j i = true) →
    ChP cx ops ids K (l ++ i :: r) e s → ChP cx ops ids K (i :: (l ++ r)) e s
  | [], _, _, _, c => c
  | j :: l, e, s, h, c => by
    refine ChP.swap hops hK (h j (by simp)) ?_
    simp only [List.cons_append, ChP] at c ⊢
    split at c
    · rename_i o ho
      obtain ⟨h0, cv, v, s', h1, h2⟩ := c
      exact ⟨h0, cv, v, s', h1, ChP.front hops hK (fun k hk => h k (by simp [hk])) h2⟩
    · exact c.elim
end

section
variable {c : Cx} {k : List It} {e : Env} {s : List Blk}
/-! ### the walk in the text's order, with something asked of each operation -/
mutual
def dxg (c : Cx) (all : List Oper) (ck : Nat → Env → List Blk → Oper → Prop) (k : List It) : Nat → List Oper → List AV → Env → List Blk → Prop
  | _, [], _, e, s => AWp c k e s
  | 0, _ :: _, _, _, _ => False
  | n + 1, o :: r, cs, e, s => ck (rix all (o :: r)) e s o ∧ dxgc c all ck k n (dgrd c all s o r cs e o.guard)
def dxgc (c : Cx) (all : List Oper) (ck : Nat → Env → List Blk → Oper → Prop) (k : List It) : Nat → Dn → Prop
  | n, .go r cs e s => dxg c all ck k n r cs e s
  | n, .two b r cs e r' cs' e' s => dbrg c all ck k n b r cs e r' cs' e' s
  | n, .side p r cs e s => p ∧ dxg c all ck k n r cs e s
  | _, .fail => False
def dbrg (c : Cx) (all : List Oper) (ck : Nat → Env → List Blk → Oper → Prop) (k : List It) : Nat → Bool → List Oper → List AV → Env → List Oper → List AV → Env → List Blk → Prop
  | 0, _, _, _, _, _, _, _, _ => False
  | n + 1, b, r, cs, e, r', cs', e', s => (b = true → dxg c all ck k n r cs e s) ∧ (b = false → dxg c all ck k n r' cs' e' s)
end
theorem dbrg_true {all : List Oper} {ck : Nat → Env → List Blk → Oper → Prop} {n : Nat} {r cs e r' cs' e' s} : dbrg c all ck k (n + 1) true r cs e r' cs' e' s = dxg c all ck k n r cs e s := by rw [dbrg]; simp
theorem dbrg_false {all : List Oper} {ck : Nat → Env → List Blk → Oper → Prop} {n : Nat} {r cs e r' cs' e' s} : dbrg c all ck k (n + 1) false r cs e r' cs' e' s = dxg c all ck k n r' cs' e' s := by rw [dbrg]; simp

theorem dxg_op {all : List Oper} {ck : Nat → Env → List Blk → Oper → Prop} {n : Nat} {o : Oper} {r : List Oper} {cs : List AV} (hg : o.guard = none) (h : dxg c all ck k n (o :: r) cs e s) :
    ck (rix all (o :: r)) e s o ∧ ∃ cv v n' cs' s', DoesOp c s o cv e v s' ∧ dxg c all ck k n' r cs' (put e o.dst v) s' := by
  cases n with
  | zero => rw [dxg] at h; exact h.elim
  | succ n =>
    rw [dxg] at h
    refine ⟨h.1, ?_⟩
    replace h := h.2
    rw [hg] at h
    unfold dgrd at h
    unfold DoesOp
    revert h
    cases xop false true c.P e s o.op with
    | ok u => intro h; simp only [dres, dxgc] at h; exact ⟨.any, u, n, cs, s, ⟨rfl, rfl⟩, h⟩
    | side p u => intro h; simp only [dres, dxgc] at h; exact ⟨.any, u, n, cs, s, ⟨h.1, rfl, rfl⟩, h.2⟩
    | sto p u s' => intro h; simp only [dres, dxgc] at h; exact ⟨.any, u, n, cs, s', ⟨h.1.1, h.1.2, rfl, rfl⟩, h.2⟩
    | pick b x y =>
      intro h; simp only [dres, dxgc] at h
      cases n with
      | zero => rw [dbrg] at h; exact h.elim
      | succ n =>
      rw [dbrg] at h
      refine ⟨.any, _, n, cs, s, ⟨rfl, rfl⟩, ?_⟩
      cases b with
      | true => exact h.1 rfl
      | false => exact h.2 rfl
    | call f args =>
      intro h; simp only [dres] at h
      cases cs with
      | nil => simp only [dcall, dxgc] at h
      | cons cv cs => simp only [dcall, dxgc] at h; exact ⟨cv, cv, n, cs, s, ⟨h.1.1, h.1.2, rfl, rfl⟩, h.2⟩
    | anyb p => intro h; simp only [dres, dxgc] at h
    | stuck => intro h; simp only [dres, dxgc] at h

theorem dxg_step {all : List Oper} {ck : Nat → Env → List Blk → Oper → Prop} {n : Nat} {o : Oper} {r : List Oper} {cs : List AV} (h : dxg c all ck k n (o :: r) cs e s) :
    ck (rix all (o :: r)) e s o ∧ ∃ cv v n' cs' s', Does c all.toArray s o cv e v s' ∧ dxg c all ck k n' r cs' (put e o.dst v) s' := by
  cases hg : o.guard with
  | none =>
    obtain ⟨h0, cv, v, n', cs', s', h1, h2⟩ := dxg_op hg h
    exact ⟨h0, cv, v, n', cs', s', by unfold Does; rw [hg]; exact h1, h2⟩
  | some jw =>
    obtain ⟨j, want⟩ := jw
    cases n with
    | zero => rw [dxg] at h; exact h.elim
    | succ n =>
      rw [dxg] at h
      refine ⟨h.1, ?_⟩
      replace h := h.2
      rw [hg] at h
      unfold dgrd dyld at h
      cases hy : yldD want e all[j]? with
      | none => simp only [hy, dxgc] at h
      | some b =>
        simp only [hy] at h
        have key : (b = want → ∃ n', dxg c all ck k n' ({ o with guard := none } :: r) cs e s) ∧ (b ≠ want → ∃ n', dxg c all ck k n' r cs (put e o.dst (.raw undef)) s) := by
          cases n with
          | zero => cases want <;> simp only [cond_true, cond_false, dxgc, dbrg] at h
          | succ n =>
            cases want <;> simp only [cond_true, cond_false, dxgc, dbrg] at h <;> cases b <;>
              first
              | exact ⟨fun _ => ⟨n, h.1 rfl⟩, fun hh => (hh rfl).elim⟩
              | exact ⟨fun _ => ⟨n, h.2 rfl⟩, fun hh => (hh rfl).elim⟩
              | exact ⟨fun hh => (by cases hh), fun _ => ⟨n, h.1 rfl⟩⟩
              | exact ⟨fun hh => (by cases hh), fun _ => ⟨n, h.2 rfl⟩⟩
        have hy' : yldD want e all.toArray[j]? = some b := by simpa using hy
        by_cases hb : b = want
        · obtain ⟨n1, h1⟩ := key.1 hb
          obtain ⟨_, cv, v, n', cs', s', h1, h2⟩ := dxg_op (o := { o with guard := none }) rfl h1
          refine ⟨cv, v, n', cs', s', ?_, h2⟩
          unfold Does
          rw [hg]
          simp only [hy']
          exact .inl ⟨hb, h1⟩
        · obtain ⟨n1, h1⟩ := key.2 hb
          refine ⟨.any, .raw undef, n1, cs, s, ?_, h1⟩
          unfold Does
          rw [hg]
          simp only [hy']
          exact .inr ⟨hb, trivial, trivial⟩

theorem chP_of_dxg {all : List Oper} {ids : List (Nat × Nat)} : ∀ {r : List Oper} {m n : Nat} {cs : List AV} {e : Env} {s : List Blk}, (∀ (j : Nat), r[j]? = all[m + j]?) → all.length = m + r.length → dxg c all (pck ids) k n r cs e s → ChP c all.toArray ids (fun e s => AWp c k e s) (List.range' m r.length) e s
  | [], m, n, cs, e, s, _, _, h => by
    rw [dxg] at h
    exact h
  | o :: r, m, n, cs, e, s, hr, hlen, h => by
    obtain ⟨h0, cv, v, n', cs', s', h1, h2⟩ := dxg_step h
    have hat : all.toArray[m]? = some o := by have := hr 0; simpa using this.symm
    have hix : rix all (o :: r) = m := by unfold rix; omega
    rw [hix] at h0
    simp only [List.length_cons, List.range'_succ, ChP, hat]
    exact ⟨h0, cv, v, s', h1, chP_of_dxg (fun j => by have := hr (j + 1); simpa [Nat.add_assoc, Nat.add_comm 1 j] using this) (by simp at hlen; omega) h2⟩

/-- A STATEMENT WHOSE ORDER IS OPEN, in which the operations with the numbers 'ids' put into maps of one's own, each into its own. -/
theorem adrawP (ids : List (Nat × Nat)) (cs : List AV) {id : Nat} {ops : List Oper} (hm : c.P.follows .mixedOrders = true) (hok : drawOkG (okPu ops ids) ops = true) {N : Nat} (hN : c.fn.ntmps = N) (hdst : ops.all (fun o => dOk N o.dst) = true) (n : Nat)
    (h : dxg c ops (pck ids) k n ops cs e s) : AWp c (.code (.region id ops.toArray true) :: k) e s := by
  intro a w hsim
  have hch := chP_of_dxg (m := 0) (by intro j; simp) (by simp) h
  rw [← List.range_eq_range'] at hch
  refine wp_region_any hm ?_
  have hsim' : Sim c e s a { w with drawn := w.drawn + 1 } := by
    obtain ⟨hh, ρ, hmm, hl, he, hdf, hsz, hX⟩ := hsim
    have sm : Same w { w with drawn := w.drawn + 1 } := Same.drew w
    exact ⟨hh, ρ, hmm.same sm, hl.trans (Later.same sm), he, hdf, hsz, c.hx.later hmm (Later.same sm) hX⟩
  have hd : ∀ o ∈ ops, dOk c.fn.ntmps o.dst = true := fun o ho => by rw [hN]; exact (List.all_eq_true.1 hdst) o ho
  refine any_of_gen (okp := okPu ops ids) (ChP c ops.toArray ids (fun e s => AWp c k e s)) hok (fun e s x => x) (fun l i r e s hj x => ChP.front rfl AWp.K hj x)
    (fun i o r e s a w Kc ho x hs hK => ?_)
    ops.length (Array.replicate ops.length false) (List.range ops.length) e s a _ (by simp) ?_ (by simp) ?_ hch hsim'
  · have ho' : ops.toArray[i]? = some o := by simpa using ho
    simp only [ChP, ho'] at x
    obtain ⟨_, cv, v, s', h1, h2⟩ := x
    exact does_wp hs (hd o (List.mem_of_getElem? ho)) h1 fun a w hs' => hK _ _ a w h2 hs'
  · symm
    rw [List.filter_eq_self]
    intro i hi
    simp at hi
    simp [hi]
  · intro i hi j hj
    exfalso
    by_cases h1 : i < ops.length
    · simp [h1] at hi
    · unfold waits at hj
      have : ops[i]? = none := by simp; omega
      simp [this] at hj
end
end Go.Av
/- From a contract in plain data to the row: what was there when the call began stands. Own work of this seat. -/
set_option linter.unusedSimpArgs false
set_option linter.unusedVariables false
namespace Go.Av
open Go Go.RowKit Go.WideShapes Go.ChangeShapes

theorem Same.below {W W' : World} (s : Same W W') : Below W.heap.size W W' := ⟨s.os, s.tape, s.output, s.size, s.block⟩

theorem rv_true {h : Mem} {v : Value} {b : Bool} (r : RV h Lf0 true v (.bool b)) : v = .bool b := by
  cases r with
  | bool => rfl

section
variable {H : Type} {enc : TypeId × Value → H} {P : Program}
/-- a call behind which all old blocks stand: the row's last step -/
theorem post_of_old {f : Func} {s : ChangeSpec} {apart fresh handsOn again : Bool} {W W' : World} {args : Array Value} {v : Value} {ds gs : List (DataW H)} {before pa pv : List MemPlace}
    (hW : DataW.Whole enc P f.params.toList s.vars apart W args.toList ds gs before)
    (hres : ∀ (b : Nat) (sp : Nat → Bool) (hd : Bool), DataW.TrodAll enc P W' b sp hd f.resultTypes.toList (v.resultList f.resultTypes.size) (s.fn H (ds ++ gs)).results [])
    (hargs : ∀ sp : Nat → Bool, (∀ p ∈ before, sp p.block = true) → DataW.TrodAll enc P W' 0 sp true f.params.toList args.toList (s.fn H (ds ++ gs)).args pa)
    (hvars : ∀ sp : Nat → Bool, (∀ p ∈ before, sp p.block = true) → DataW.TrodVars enc P W' sp s.vars (s.fn H (ds ++ gs)).vars pv)
    (hps : before = pa ++ pv) (hs : Same W W')
    (hok : ∀ (j : Nat) (t : TypeId) (r : Value), f.resultTypes[j]? = some t → (v.resultList f.resultTypes.size)[j]? = some r → Value.okWide P W' .any 0 t r) :
    s.post enc P f apart fresh handsOn again W args v W' := by
  have hb := hs.below
  have hlt : ∀ p ∈ before, p.block < W.heap.size := fun p hp => hW.lt p hp
  have hold : ∀ p ∈ before, (fun b => decide (b < W.heap.size)) p.block = true := fun p hp => decide_eq_true (hlt p hp)
  have hwritten : ∀ p ∈ before, p ∈ before ∧ (p ∈ ([] : List MemPlace) ++ pa ∨ p ∈ pv) := fun p hp => ⟨hp, by rw [hps] at hp; simpa using hp⟩
  refine ⟨ds, gs, before, [], pa, pv, hW, hres _ _ _, hargs _ hold, hvars _ hold, World.keptBut_mono (fun p hp => ⟨hp, ?_⟩) (hb.frame (· ∈ before)), fun _ => ?_⟩
  · have := (hwritten p hp).2
    simpa using this
  · obtain ⟨_, _, _, _, _, hz, hn⟩ := hW
    refine ⟨hok, _, _, ([] ++ pa) ++ pv, ⟨[] ++ pa, pv, trodAll_append (hargs _ (fun _ _ => rfl)) (hres _ _ _), hvars _ (fun _ _ => rfl), rfl, ?_, ?_⟩, ?_⟩
    · intro b off hp
      have hin : MemPlace.cell b off ∈ before := by rw [hps]; simpa using hp
      rw [hb.frozen (hlt _ hin)]
      exact hz b off hin
    · intro ha
      have h2 := hn ha
      rw [hps] at h2
      simpa using h2
    · intro p hp _
      rw [hps]
      simpa using hp
end
end Go.Av
/- From a contract in plain data to a row whose law takes a list of integers, reads listed tables' row and leans on a cell of the library's. Own work of this seat. -/
set_option linter.unusedSimpArgs false
set_option linter.unusedVariables false
namespace Go.Av
open Go Go.RowKit Go.WideShapes Go.ChangeShapes

/-- all cells of a world -/
def full (W : World) : Mem := fun b o => (W.cell? ⟨b, o, none⟩).filter (·.oneCell')
theorem full_of {W : World} {b o : Nat} {v : Value} (h : W.cell? ⟨b, o, none⟩ = some v) (hv : v.oneCell' = true) : full W b o = some v := by simp [full, h, Option.filter, hv]
theorem of_full {W : World} {b o : Nat} {v : Value} (h : full W b o = some v) : W.cell? ⟨b, o, none⟩ = some v ∧ v.oneCell' = true := by
  unfold full at h
  rw [Option.filter_eq_some_iff] at h
  exact h

theorem PcH.atW {P : Program} {g : Std} {f : FuncId} {args : List AV} {b : Bool} (hc : PcH P g f args (· = .bool b)) {W : World} {vs : List Value} (hg : Stands g W) (hv : RL (full W) Lf0 true vs args) :
    Calls P f vs.toArray W fun e W' => e = .returned (.bool b) ∧ Same W W' :=
  (hc.2 (full W) W vs hg (fun _ _ _ e => of_full e) hv).mono fun e W' ⟨v, r, h', e1, e2, _, _, _, hs, rv⟩ => by
    subst e2
    rw [rv_true rv] at e1
    exact ⟨e1, hs⟩

section
variable {H : Type} {enc : TypeId × Value → H} {P : Program} {t e : TypeId} {W : World} {base : Nat} {v : Value} {d : DataW H} {p : List MemPlace}

/-- a list of integers that is handed in: plain, and read again behind the call -/
theorem ints_arg (ht : P.underlying t = some (.slice e)) (he : P.underlying e = some (.int .i64)) (hc : P.cellsOf e = 1) (hval : Value.okWide P W .any base t v) (h0 : DataW.Trod enc P W 0 (fun _ => true) true t v d p) :
    ∃ L : List Int, (∀ x ∈ L, (Lit.int .i64 x).wf = true) ∧ RV (full W) Lf0 true v (.fz 1 (L.map (.int .i64))) ∧ ∀ W', Same W W' → ∀ sp : Nat → Bool, (∀ x ∈ p, sp x.block = true) → DataW.Trod enc P W' 0 sp true t v d p := by
  obtain ⟨a0, len, cap, rfl⟩ := okWide_slice ht hval
  obtain ⟨fuel, hf⟩ := h0
  rcases Go.ChangeShapes.open_ints ht he hc hf with ⟨hcs, hx⟩ | ⟨a, len', cap', zs, hcs, _, hl, hm, hz, hx, hcell, hwz⟩
  · simp only [Value.cells, List.cons.injEq, Value.slice.injEq, and_true] at hcs
    obtain ⟨rfl, rfl, rfl⟩ := hcs
    simp only [Prod.mk.injEq] at hx
    obtain ⟨rfl, rfl⟩ := hx
    exact ⟨[], by simp, .fznil 1, fun W' _ sp _ => shut_slice_nil ht⟩
  · simp only [Value.cells, List.cons.injEq, Value.slice.injEq, and_true] at hcs
    obtain ⟨rfl, rfl, rfl⟩ := hcs
    simp only [Prod.mk.injEq] at hx
    obtain ⟨rfl, rfl⟩ := hx
    simp only [if_true] at hz
    have hspot : a.spot = none := by
      simp only [Value.okWide, ht, Cell.okWide, Cell.ok] at hval
      exact hval.2.2.2.1
    obtain ⟨b, off, spot⟩ := a
    simp only at hspot
    subst hspot
    have hcell' : ∀ i, i < zs.length → W.cell? ⟨b, off + i, none⟩ = some (.int .i64 (zs.getD i 0)) := fun i hi => by rw [← Go.WideShapes.add_plain]; exact hcell i hi
    have htl : (zs.take len).length = len := by simp; omega
    refine ⟨zs.take len, fun x hx => hwz x (List.mem_of_mem_take hx), ?_, fun W' hs sp hsp => ?_⟩
    · have := RV.fz (h := full W) (Lf := Lf0) (fl := true) b off cap 1 ((zs.take len).map (.int .i64)) ((zs.take len).map (.int .i64)) ?_ (fun x hx => by obtain ⟨z, _, rfl⟩ := List.mem_map.1 hx; rfl) ?_ (by simp; omega)
      · rwa [List.length_map, htl] at this
      · generalize zs.take len = l
        induction l with
        | nil => exact .nil
        | cons x l ih => exact .cons (.int _ _) ih
      · intro k u hu
        rw [List.getElem?_map] at hu
        obtain ⟨z, hz1, rfl⟩ := Option.map_eq_some_iff.1 hu
        have hk : k < len := by
          have := (List.getElem?_eq_some_iff.1 hz1).1
          omega
        rw [List.getElem?_take_of_lt hk] at hz1
        have hkz : k < zs.length := (List.getElem?_eq_some_iff.1 hz1).1
        refine full_of ?_ rfl
        rw [hcell' k hkz]
        simp [List.getD, hz1]
    · have hcell2 : ∀ i, i < zs.length → W'.cell? ⟨b, off + i, none⟩ = some (.int .i64 (zs.getD i 0)) := fun i hi => hs.cell (hcell' i hi)
      refine ⟨0 + 2, ?_⟩
      refine Go.ChangeShapes.shut_ints' 0 ht he hc (Nat.zero_le _) hl hm ?_ hcell2 hwz
      rcases Nat.eq_zero_or_pos zs.length with h0 | h0
      · split <;> omega
      · have hb : sp b = true := hsp (.cell b off) (by
          have : 0 < zs.length := h0
          simp only [MemPlace.row]
          refine List.mem_map.2 ⟨0, by simp; omega, by simp⟩)
        rw [if_pos hb]
        exact hz
end

section
variable {H : Type} {enc : TypeId × Value → H}
/-- the wrap of a row that lists variables, the world's shape kept -/
theorem row_and_shaped {a : Assume} {C : Checked} {os : Os} {f : FuncId} {fn : Func} {s : ChangeSpec} {conds : List PathCond} {apart fresh handsOn again : Bool} {X : World → Array Value → Prop}
    (hX : ∀ (w w' : World) (args : Array Value), w.heap = w'.heap → X w args → X w' args)
    (own : ownKnob C.prog.godebug = none) (started : os.Started) (noInit : C.prog.inits.idxOf? f = none) (hfn : C.prog.funcs[f]? = some fn)
    (witness : ∃ (w : World) (tape : Tape) (i : Input), w.os = os ∧ (w.forCall tape i).Shaped C.prog ∧ i.vars = [] ∧ Input.okWide C.prog (w.forCall tape i) .any w.heap.size f i ∧
      ((s.pre enc C.prog fn conds apart (w.forCall tape i).memory i.args ∧ X (w.forCall tape i).memory i.args) ∧ sizedMet enc C.prog fn (OpenSpec.ofChange s) apart (w.forCall tape i).memory i.args) ∧ a.holds C.prog (lone (Frame.enter C.prog f i.args .normal) [] (w.forCall tape i)))
    (contract : ∀ (W : World) (base : Nat) (args : Array Value) (ds gs : List (DataW H)) (before : List MemPlace),
      (∀ (j : Nat) t v, fn.params[j]? = some t → args[j]? = some v → Value.okWide C.prog W .any base t v) →
      DataW.Whole enc C.prog fn.params.toList s.vars apart W args.toList ds gs before →
      W.ShapedOpen C.prog → X W args →
      Calls C.prog f args W fun e W' => ∃ v, e = .returned v ∧ s.post enc C.prog fn apart fresh handsOn again W args v W') :
    ReturnsInHanded a C os f .any (fun w args => (s.pre enc C.prog fn conds apart w args ∧ X w args) ∧ sizedMet enc C.prog fn (OpenSpec.ofChange s) apart w args) (s.post enc C.prog fn apart fresh handsOn again) := by
  refine returnsInHanded_of_calls own started noInit witness ?_
  intro w tape i _ hsh _ hok hpre hholds
  obtain ⟨_, _, _, fn', hfn', _, _, _, _, hval⟩ := hok
  have e : fn' = fn := Option.some.inj (hfn'.symm.trans hfn)
  subst e
  obtain ⟨⟨⟨ds, gs, before, hw, hc⟩, hx⟩, hz⟩ := hpre
  have hw' := DataW.Whole.of_heap (w' := w.forCall tape i) (by rfl) hw
  refine (contract (w.forCall tape i) w.heap.size i.args ds gs before hval hw' hsh (hX _ _ _ (by rfl) hx)).mono fun e W' ⟨v, he, hp⟩ => ?_
  subst he
  exact ChangeSpec.post_blind hp
end
end Go.Av
/- A cell of a block that holds nil, told as an empty slice (frozen, or of one's own). Own work of this seat. -/
set_option linter.unusedSimpArgs false
set_option linter.unusedVariables false
namespace Go.Av
open Go Go.RowKit

def cellTo (n : Nat) (a a' : AV) : Prop := a' = a ∨ (a = .raw (.slice none 0 0) ∧ (a' = .sl n 0 0 0 ∨ ∃ es, a' = .fz es []))
def toC (n : Nat) : List AV → List AV → Prop
  | [], [] => True
  | a :: r, a' :: r' => cellTo n a a' ∧ toC n r r'
  | _, _ => False
theorem cellTo.refl {n : Nat} {a : AV} : cellTo n a a := .inl rfl
theorem cellTo.sl {n : Nat} : cellTo n (.raw (.slice none 0 0)) (.sl n 0 0 0) := .inr ⟨rfl, .inl rfl⟩
theorem cellTo.fz {n es : Nat} : cellTo n (.raw (.slice none 0 0)) (.fz es []) := .inr ⟨rfl, .inr ⟨es, rfl⟩⟩

section
variable {h : Mem} {ρ : Own} {s : List Blk} {w : World}
theorem toC_RL {n es : Nat} (hn : s[n]? = some (.arr es [])) : ∀ {l l' : List AV} {vs : List Value}, toC n l l' → RL h (Lf ρ s) false vs l → RL h (Lf ρ s) false vs l'
  | [], [], _, _, r => r
  | a :: l, a' :: l', _, t, r => by
    cases r with
    | cons r1 r2 =>
      refine .cons ?_ (toC_RL hn t.2 r2)
      rcases t.1 with rfl | ⟨rfl, rfl | ⟨e, rfl⟩⟩
      · exact r1
      · rw [inv_raw r1]
        exact .leaf ⟨rfl, by simp only [LfC, hn]; exact ⟨by simp, fun _ => .inl ⟨trivial, trivial, none, rfl⟩⟩⟩
      · rw [inv_raw r1]
        exact .fznil e
  | [], _ :: _, _, t, _ => t.elim
  | _ :: _, [], _, t, _ => t.elim

theorem Mine.recell (m : Mine h ρ s w) {id n es es' : Nat} {l l' : List AV} (hb : s[id]? = some (.arr es l)) (hlen : l'.length = l.length) (hcl : ∀ x ∈ l', (cellsOf x).length = es) (hn : s[n]? = some (.arr es' [])) (ht : toC n (flat l) (flat l')) :
    Mine h ρ (s.set id (.arr es l')) w ∧ Later h ρ s w h ρ (s.set id (.arr es l')) w := by
  have hid := (List.getElem?_eq_some_iff.1 hb).1
  have hk : ∀ v a, Lf ρ s v a → Lf ρ (s.set id (.arr es l')) v a := fun v a x => ⟨x.1, LfC_set (b' := .arr es l') hb (fun _ _ => rfl) (Or.inl ⟨rfl, hlen, rfl⟩) x.2⟩
  refine ⟨⟨m.mem, ?_, fun i hi => m.out i (by simpa using hi), m.inj, m.disj⟩, ⟨fun _ _ _ x => x, fun _ _ a b => (b a).elim, hk, rfl, rfl, rfl, Nat.le_refl _, fun _ _ _ => rfl, fun i _ t x => .inl ⟨i, t, x⟩⟩⟩
  intro i blk e
  by_cases hi : i = id
  · subst hi
    simp [hid] at e
    subst e
    rcases m.own i _ hb with ⟨h1, h2⟩ | ⟨g, tot, cur, t, h1, h2, h3, h4, h5, h6, h7, h8, h9⟩
    · exact .inl ⟨by subst h1; simpa using hlen, h2⟩
    · refine .inr ⟨g, tot, cur, t, h1, h2, h3, by omega, h5, h6, hcl, h8, ?_⟩
      rw [hlen]
      exact (toC_RL hn ht h9).mono (fun _ _ _ x => x) hk
  · rw [List.getElem?_set_ne (Ne.symm hi)] at e
    exact (m.own i blk e).mono (fun _ _ _ x => x) hk rfl (fun _ _ _ => rfl)
end

variable {c : Cx} {e : Env} {s : List Blk}
/-- a block whose cells with nil are told as empty slices: frozen ones, or the new block of one's own -/
theorem Shift.cells (id es' : Nat) {es : Nat} {l : List AV} (l' : List AV) (hb : s.getD id .dead = .arr es l) (hlen : l'.length = l.length) (hcl : ∀ x ∈ l', (cellsOf x).length = es) (ht : toC s.length (flat l) (flat l')) :
    Shift c e s e (List.set (s ++ [Blk.arr es' []]) id (Blk.arr es l')) := by
  rintro a w ⟨hh, ρ, hm, hlt, he, hdf, hsz, hX⟩
  obtain ⟨m1, l1⟩ := hm.pushNil es'
  have hid := sto_get hb
  have hlt' : id < s.length := (List.getElem?_eq_some_iff.1 hid).1
  obtain ⟨m2, l2⟩ := m1.recell (id := id) (n := s.length) (es' := es') (by rw [List.getElem?_append_left hlt']; exact hid) hlen hcl (by simp) ht
  exact ⟨hh, ρ, m2, hlt.trans (l1.trans l2), fun t => ((he t).mono l1.hle l1.keep).mono l2.hle l2.keep, hdf, hsz, c.hx.later hm (l1.trans l2) hX⟩
end Go.Av
/- The same state told with the first blocks alone. Own work of this seat. -/
set_option linter.unusedSimpArgs false
set_option linter.unusedVariables false
namespace Go.Av
open Go Go.RowKit

/-- a cell that refers to none but the first n blocks -/
def lowC (n : Nat) : AV → Bool
  | .sl m _ _ _ => decide (m < n)
  | .ptr m _ _ _ => decide (m < n)
  | .mp m => decide (m < n)
  | v => frozen v
def lowV (n : Nat) : AV → Bool
  | .agg r => r.all (lowC n)
  | .fn _ r => r.all (lowC n)
  | v => lowC n v
def lowB (n : Nat) : Blk → Bool
  | .arr _ l => (flat l).all (lowC n)
  | .mp es => es.all fun x => frozen x.1 && frozen x.2
  | .dead => true
def wkl (n : Nat) (e : Env) : Env → Prop
  | [] => True
  | (t, v) :: r => (lowV n v = true ∧ get e t = v) ∧ wkl n e r
def lowρ (ρ : Own) (n : Nat) : Own := fun i => if i < n then ρ i else none
theorem low_of_frozen {n : Nat} {v : AV} (h : frozen v = true) : lowC n v = true := by
  cases v <;> first | exact h | (simp [frozen] at h)
theorem low_all {n : Nat} {l : List AV} (h : l.all frozen = true) : l.all (lowC n) = true := by
  rw [List.all_eq_true] at h ⊢
  exact fun x hx => low_of_frozen (h x hx)

section
variable {h : Mem} {ρ : Own} {s : List Blk} {w : World} {n : Nat}
theorem LfC_low (hn : n ≤ s.length) {v : Value} {a : AV} (hl : lowC n a = true) (l : LfC ρ s v a) : LfC (lowρ ρ n) (s.take n) v a := by
  cases a with
  | sl i o x cp =>
    have hi : i < n := of_decide_eq_true hl
    simp only [LfC, List.getElem?_take, hi, if_true, lowρ] at l ⊢; exact l
  | ptr i m j o =>
    have hi : i < n := of_decide_eq_true hl
    simp only [LfC, List.getElem?_take, hi, if_true, lowρ] at l ⊢; exact l
  | mp i =>
    have hi : i < n := of_decide_eq_true hl
    simp only [LfC, List.getElem?_take, hi, if_true, lowρ] at l ⊢; exact l
  | _ => exact l.elim
theorem low_one (hn : n ≤ s.length) {v : Value} {a : AV} (hl : lowC n a = true) (r : RV h (Lf ρ s) false v a) : RV h (Lf (lowρ ρ n) (s.take n)) false v a := by
  have frz : frozen a = true → RV h (Lf (lowρ ρ n) (s.take n)) false v a := fun hf => (frz_one r hf).thaw (fun _ _ _ x => x)
  cases a with
  | sl i o x cp => exact .leaf ⟨(inv_sl r).1, LfC_low hn hl (inv_sl r).2⟩
  | ptr i m j o => exact .leaf ⟨(inv_ptr r).1, LfC_low hn hl (inv_ptr r).2⟩
  | mp i => exact .leaf ⟨(inv_mp r).1, LfC_low hn hl (inv_mp r).2⟩
  | _ => exact frz hl
theorem low_list (hn : n ≤ s.length) : ∀ {l : List AV} {vs : List Value}, l.all (lowC n) = true → RL h (Lf ρ s) false vs l → RL h (Lf (lowρ ρ n) (s.take n)) false vs l
  | [], _, _, r => by cases r; exact .nil
  | a :: l, _, hl, r => by
    simp only [List.all_cons, Bool.and_eq_true] at hl
    cases r with | cons r1 r2 => exact .cons (low_one hn hl.1 r1) (low_list hn hl.2 r2)

theorem Mine.low (m : Mine h ρ s w) (hn : n ≤ s.length) (hb : (s.take n).all (lowB n) = true) : Mine h (lowρ ρ n) (s.take n) w := by
  have hρ : ∀ i g t, lowρ ρ n i = some (g, t) → i < n ∧ ρ i = some (g, t) := by
    intro i g t e
    unfold lowρ at e
    split at e
    · exact ⟨by assumption, e⟩
    · cases e
  refine ⟨m.mem, ?_, ?_, ?_, ?_⟩
  · intro i b e
    have hi : i < n := by
      have := (List.getElem?_eq_some_iff.1 e).1
      simp at this; omega
    have hlow : lowB n b = true := List.all_eq_true.1 hb b (List.mem_of_getElem? e)
    rw [List.getElem?_take, if_pos hi] at e
    have o := m.own i b e
    have hρi : lowρ ρ n i = ρ i := by simp [lowρ, hi]
    cases b with
    | arr es l =>
      rcases o with ⟨h1, h2⟩ | ⟨g, tot, cur, t, h1, h2, h3, h4, h5, h6, h7, h8, h9⟩
      · exact .inl ⟨h1, hρi.trans h2⟩
      · exact .inr ⟨g, tot, cur, t, hρi.trans h1, h2, h3, h4, h5, h6, h7, h8, low_list hn hlow h9⟩
    | mp es =>
      obtain ⟨g, en, cl, h1, h2, h3, h4⟩ := o
      refine ⟨g, en, cl, hρi.trans h1, h2, h3, fun k x y hx hy => ?_⟩
      obtain ⟨p, q⟩ := h4 k x y hx hy
      simp only [lowB, List.all_eq_true, Bool.and_eq_true] at hlow
      have := hlow x (List.mem_of_getElem? hx)
      exact ⟨(frz_one p this.1).thaw (fun _ _ _ x => x), (frz_one q this.2).thaw (fun _ _ _ x => x)⟩
    | dead => exact hρi.trans o
  · intro i hi
    have : ¬ i < n := by simp at hi; omega
    simp [lowρ, this]
  · intro i j g t t' hi hj
    exact m.inj i j g t t' (hρ i g t hi).2 (hρ j g t' hj).2
  · intro i g t e
    exact m.disj i g t (hρ i g t e).2
end

variable {c : Cx} {e : Env} {s : List Blk}
theorem wkl_get {n : Nat} {e e' : Env} (h : wkl n e e') (t : Nat) : get e' t = .any ∨ (lowV n (get e' t) = true ∧ get e t = get e' t) := by
  induction e' with
  | nil => exact .inl rfl
  | cons x r ih =>
    obtain ⟨k, v⟩ := x
    simp only [get]
    by_cases hk : k = t
    · subst hk; simp; exact .inr h.1
    · have : (k == t) = false := by simpa using hk
      simp only [this, cond_false]
      exact ih h.2

/-- the first n blocks alone are told of: they, and the slots that are told of, refer to no other -/
theorem Shift.low (n : Nat) {e' : Env} (hc : c.sto.length ≤ n) (hn : n ≤ s.length) (hb : (s.take n).all (lowB n) = true) (hw : wkl n e e') : Shift c e s e' (s.take n) := by
  rintro a w ⟨hh, ρ, hm, hlt, he, hdf, hsz, hX⟩
  have low : ∀ v x, Lf c.ρ c.sto v x → Lf (lowρ ρ n) (s.take n) v x := by
    intro v x lf
    have l2 := hlt.keep v x lf
    refine ⟨lf.1, LfC_low hn ?_ l2.2⟩
    have hx := lf.2
    cases x <;> simp only [LfC] at hx
    · rename_i i o l cp
      cases hq : c.sto[i]? with
      | none => simp [hq] at hx
      | some y => exact decide_eq_true (Nat.lt_of_lt_of_le (List.getElem?_eq_some_iff.1 hq).1 hc)
    · rename_i i n j o
      cases hq : c.sto[i]? with
      | none => simp [hq] at hx
      | some y => exact decide_eq_true (Nat.lt_of_lt_of_le (List.getElem?_eq_some_iff.1 hq).1 hc)
    · rename_i i
      cases hq : c.sto[i]? with
      | none => simp [hq] at hx
      | some y => exact decide_eq_true (Nat.lt_of_lt_of_le (List.getElem?_eq_some_iff.1 hq).1 hc)
  have hρ : ∀ i g t, lowρ ρ n i = some (g, t) → ρ i = some (g, t) := by
    intro i g t e
    unfold lowρ at e
    split at e
    · exact e
    · cases e
  refine ⟨hh, lowρ ρ n, hm.low hn hb, ⟨hlt.hle, hlt.hnew, low, hlt.os, hlt.tape, hlt.output, hlt.size, hlt.block, fun i g t hi => hlt.newown i g t (hρ i g t hi)⟩, fun t => ?_, hdf, hsz, c.hx.fewer (fun i g t hi => ⟨i, t, hρ i g t hi⟩) hX⟩
  have hx := he t
  rcases wkl_get hw t with hq | ⟨h1, hq⟩
  · rw [hq]; exact .any _
  · rw [hq] at hx
    generalize Av.get e' t = y at h1 hx ⊢
    cases y with
    | agg r =>
      obtain ⟨vs, hv, rl⟩ := inv_agg hx
      rw [hv]
      exact .agg vs r (low_list hn h1 rl)
    | fn f r =>
      generalize a.tmps.getD t undef = u at hx ⊢
      cases hx with
      | leaf p => exact p.2.elim
      | fn _ vs _ rl => exact .fn f vs r (low_list hn h1 rl)
    | _ => exact low_one hn h1 hx
end Go.Av
/- A call that makes one new block, in an open-order statement: the block is set aside before. Own work of this seat. -/
set_option linter.unusedSimpArgs false
set_option linter.unusedVariables false
namespace Go.Av
open Go Go.RowKit

variable {c : Cx} {e : Env} {s : List Blk}
/-- an empty block, set aside -/
theorem Shift.reserve (es : Nat) : Shift c e s e (s ++ [.arr es []]) := by
  rintro a w ⟨hh, ρ, hm, hlt, he, hdf, hsz, hX⟩
  obtain ⟨m', l'⟩ := hm.pushNil es
  exact ⟨hh, ρ, m', hlt.trans l', fun t => (he t).mono l'.hle l'.keep, hdf, hsz, c.hx.later hm l' hX⟩

theorem rl_frozen {h : Mem} {ρ ρ' : Own} {s s' : List Blk} {vs : List Value} {l : List AV} (hf : l.all frozen = true) (r : RL h (Lf ρ s) false vs l) : RL h (Lf ρ' s') false vs l :=
  (frz_all r hf).thaw (fun _ _ _ x => x)

theorem icall_new {f : FuncId} {args : List AV} {n es : Nat} {l : List AV} {K : AV → List Blk → Prop} (hc : Ct c.P f args [] (fun r s => r = .sl 0 0 n n ∧ s = [.arr es l])) (hn : 0 < n) (hlen : l.length = n) (ha : args.all frozen = true) (hf : (flat l).all frozen = true)
    {id : Nat} (hid : s[id]? = some (.arr es [])) (hk : K (.sl id 0 n n) (s.set id (.arr es l))) : ICall c f args id s K := by
  refine ⟨_, fun r b => r = .sl id 0 n n ∧ b = .arr es l, hid, ⟨hc.1, fun h ρ s w vs hs m lt0 r => ?_⟩, ⟨_, _, rfl, rfl⟩, fun r b ⟨h1, h2⟩ => by rw [h1, h2]; exact hk⟩
  have hidl := (List.getElem?_eq_some_iff.1 hs).1
  have hm0 : Mine h (fun _ => none) [] w := ⟨m.mem, fun id blk e => by simp at e, fun _ _ => rfl, fun i j g t t' e => by simp at e, fun i g t e => by simp at e⟩
  refine (hc.2 h (fun _ => none) w vs hm0 (rl_frozen ha r)).mono ?_
  rintro en w' ⟨v, r, s1, h', ρ1, rfl, ⟨rfl, rfl⟩, m', lt, rv⟩
  have hne : l ≠ [] := by intro h; rw [h] at hlen; simp at hlen; omega
  have hgood : ∀ i g t, ρ1 i = some (g, t) → w.heap.size ≤ g := fun i g t e => by
    rcases lt.newown i g t e with ⟨j, t', hj⟩ | h
    · cases hj
    · exact h
  have hblk : ∀ k, k < w.heap.size → w'.heap[k]? = w.heap[k]? := fun k hk => lt.block k hk (fun i t e => by cases e)
  have hnew : ∀ b o, h b o = none → h' b o ≠ none → w.heap.size ≤ b := fun b o e n => by
    rcases lt.hnew b o e n with ⟨j, t', hj⟩ | h
    · cases hj
    · exact h
  have hρ : ∀ i, i ≠ id → upd ρ id (ρ1 0) i = ρ i := fun i hi => by simp [upd, hi]
  have hρi : upd ρ id (ρ1 0) id = ρ1 0 := by simp [upd]
  have hkeep : ∀ v a, Lf ρ s v a → Lf (upd ρ id (ρ1 0)) (s.set id (.arr es l)) v a := fun v a x => ⟨x.1, LfC_set (b' := .arr es l) hs hρ (Or.inr (by
    rw [hlen]; exact hn)) x.2⟩
  have hown : ∀ i g t, upd ρ id (ρ1 0) i = some (g, t) → (i ≠ id ∧ ρ i = some (g, t) ∧ g < w.heap.size) ∨ (i = id ∧ ρ1 0 = some (g, t) ∧ w.heap.size ≤ g) := fun i g t e => by
    by_cases hi : i = id
    · rw [hi, hρi] at e
      exact .inr ⟨hi, e, hgood 0 g t e⟩
    · rw [hρ i hi] at e
      exact .inl ⟨hi, e, m.lt e⟩
  refine ⟨v, _, _, h', upd ρ id (ρ1 0), rfl, ⟨rfl, rfl⟩, ⟨m'.mem, ?_, ?_, ?_, ?_⟩, ⟨lt.hle, fun b o e n => .inr (hnew b o e n), hkeep, lt.os, lt.tape, lt.output, lt.size, fun k hk _ => hblk k hk, ?_⟩, ?_⟩
  · intro i blk e
    by_cases hi : i = id
    · subst hi
      simp [hidl] at e
      subst e
      rcases m'.own 0 (.arr es l) rfl with ⟨h1, h2⟩ | ⟨g, tot, cur, t, h1, h2, h3, h4, h5, h6, h7, h8, h9⟩
      · exact (hne h1).elim
      · exact .inr ⟨g, tot, cur, t, hρi.trans h1, h2, h3, h4, h5, h6, h7, h8, rl_frozen hf h9⟩
    · rw [List.getElem?_set_ne (Ne.symm hi)] at e
      exact (m.own i blk e).mono lt.hle hkeep (hρ i hi) (fun g t hg => hblk g (m.lt hg))
  · intro i hi
    simp at hi
    rw [hρ i (by omega)]
    exact m.out i hi
  · intro i j g t t' hi hj
    rcases hown i g t hi with ⟨a1, a2, a3⟩ | ⟨a1, a2, a3⟩ <;> rcases hown j g t' hj with ⟨b1, b2, b3⟩ | ⟨b1, b2, b3⟩
    · exact m.inj i j g t t' a2 b2
    · omega
    · omega
    · omega
  · intro i g t e o
    rcases hown i g t e with ⟨a1, a2, a3⟩ | ⟨a1, a2, a3⟩
    · cases hq : h' g o with
      | none => rfl
      | some z =>
        have := hnew g o (m.disj i g t a2 o) (by rw [hq]; simp)
        omega
    · exact m'.disj 0 g t a2 o
  · intro i g t e
    rcases hown i g t e with ⟨a1, a2, a3⟩ | ⟨a1, a2, a3⟩
    · exact .inl ⟨i, t, a2⟩
    · exact .inr a3
  · have q := inv_sl rv
    exact .leaf ⟨q.1, LfC_at (blk := .arr es l) rfl (by simp [hidl]) hρi q.2⟩
end Go.Av
